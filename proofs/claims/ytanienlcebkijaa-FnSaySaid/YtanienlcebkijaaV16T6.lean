/- T5, S3, R5, T6. -/
import Derived.Test.YtanienlcebkijaaV16S2
section
namespace Go.Dat
open Go.Abs
theorem l3 (x y z : ByteArray) : Append.append (Append.append x y) z = cat [x, y, z] := by
  show (x ++ y) ++ z = x ++ (y ++ (z ++ ⟨#[]⟩)); rw [ba_append_nil, ba_assoc]
theorem l4 (x y z w : ByteArray) : Append.append (Append.append (Append.append x y) z) w = cat [x, y, z, w] := by
  show ((x ++ y) ++ z) ++ w = x ++ (y ++ (z ++ (w ++ ⟨#[]⟩))); simp only [ba_assoc, ba_append_nil]
theorem l6 (x y z w u v : ByteArray) : Append.append (Append.append (Append.append (Append.append (Append.append x y) z) w) u) v = cat [x, y, z, w, u, v] := by
  show ((((x ++ y) ++ z) ++ w) ++ u) ++ v = x ++ (y ++ (z ++ (w ++ (u ++ (v ++ ⟨#[]⟩))))); simp only [ba_assoc, ba_append_nil]
theorem prfPre_step {v q : Int} {op : ByteArray} {l : List Sh.int.T} {j : Nat} {x : Int} (h : l[j]? = some x) : prfPre (v, q, op, l) (j + 1) = prfPre (v, q, op, l) j ++ [nb x] := by
  unfold prfPre; dsimp only; rw [take_map_snoc (f := nb) (xs := (l : List Int)) h, List.append_assoc]
theorem chgPre_step {f v : Int} {l : List proofSh.T} {j : Nat} {x : proofSh.T} (h : l[j]? = some x) : chgPre (f, v, l) (j + 1) = chgPre (f, v, l) j ++ [prfB x] := by
  unfold chgPre; dsimp only; rw [take_map_snoc (f := prfB) (xs := l) h, List.append_assoc]
theorem sayPre_step {k f v q : Int} {op : ByteArray} {cs : List changeSh.T} {j : Nat} {x : changeSh.T} (h : cs[j]? = some x) : sayPre k f v q op cs (j + 1) = sayPre k f v q op cs j ++ [chgB x] := by
  unfold sayPre; rw [take_map_snoc (f := chgB) (xs := cs) h, List.append_assoc]
end Go.Dat
namespace Go.Proofs.Ytanienlcebkijaa
open Go.Abs Go.Dat
set_option maxRecDepth 100000
set_option maxHeartbeats 8000000
def puL (pre : Nat → ByteArray) (n : Nat) (S : List Value) (h : AHeap) : LSpec where
  ι := Nat × AHeap
  κ := AHeap
  I := fun i => i.1 ≤ n ∧ h.Le i.2 ∧ i.2.wf
  μ := fun i => n - i.1
  head := fun i => ⟨[(1, .complex .f32 0 0), (3, .string (pre i.1)), (4, .int .i64 i.1)], [S], i.2⟩
  post := fun j => ⟨[(3, .string (pre n))], [], j⟩
  R := fun _ j => h.Le j ∧ j.wf
  ret := fun _ _ _ => False
theorem proofBytes_spec (h : AHeap) (hw : h.wf) (v q : Int) (op : ByteArray) (l : List Sh.int.T) (a : Option Addr) (c : Nat) (h1 : Sl h Sh.int l (.slice a l.length c)) (H : PrfOk v q op l) :
    ∃ r h', ACall Try.prog 198 [.agg #[.int .i64 v, .int .i64 q, .string op, .slice a l.length c]] h r h' ∧ h.Le h' ∧ h'.wf ∧ r = .string (prfB (v, q, op, l)) := by
  refine acall_q fun Q HQ => ?_
  have sz : ∀ a b : ByteArray, (Append.append a b).size = a.size + b.size := fun a b => ByteArray.size_append
  have hs := fun j => prfPre_size H j
  obtain ⟨hv, hq, ho, hl⟩ := H
  have hl4 := hl.len
  have q1 := nb_sz hv (by omega) (by omega)
  have q2 := nb_sz hq (by omega) (by omega)
  have q3 := vt_size' (t := op) (by omega)
  have q4 := nb_size (n := (l.length : Int)) (by omega)
  unfold InR at hv hq
  obtain ⟨_, g1, A1, le1, w1, rfl⟩ := specPutNum h hw v (by omega)
  obtain ⟨_, g2, A2, le2, w2, rfl⟩ := specPutNum g1 w1 q (by omega)
  obtain ⟨_, g3, A3, le3, w3, rfl⟩ := specPutText g2 w2 op (by omega)
  obtain ⟨_, g4, A4, le4, w4, rfl⟩ := specPutNum g3 w3 l.length (by omega)
  have lg := le1.trans (le2.trans (le3.trans le4))
  unfold nb at q1 q2 q4
  refine acall_vc (fun _ => false) (fun r => match r with | 1 => [(0, 0, []), (3, 0, []), (7, 0, []), (11, 0, []), (1, 1, []), (4, 1, []), (8, 1, []), (12, 1, []), (13, 0, []), (2, 3, [4, 8, 12]), (5, 3, [8, 12]), (6, 0, []), (9, 3, [12]), (10, 0, []), (14, 3, []), (15, 0, []), (16, 0, [])] | _ => []) (fun _ => puL (fun j => cat (prfPre (v, q, op, l) j)) l.length [.int .i64 v, .int .i64 q, .string op, .slice a l.length c] h) mixed Try.func198 rfl rfl rfl (Nat.le_of_ble_eq_true rfl) ?_ ?_
  · refine vc_mp (by kernel_rfl : (True ∧ True ∧ (True ∧ (∀ (i : Nat × AHeap), Prod.fst i ≤ List.length l ∧ AHeap.Le h (Prod.snd i) ∧ AHeap.wf (Prod.snd i) → bs (decide ((↑(Prod.fst i) : Int) < (↑(List.length l) : Int))) (∃ (l_1 : Nat), ∃ (r : Nat), a = some (Addr.mk l_1 r (some (1 : Nat))) ∧ (0 : Int) ≤ (↑(Prod.fst i) : Int) ∧ (↑(Prod.fst i) : Int) < (↑(List.length l) : Int) ∧ ∃ (x : Int), AHeap.ld (Prod.snd i) l_1 (r + Int.toNat (↑(Prod.fst i) : Int)) (0 : Nat) (1 : Nat) = some [Value.int IntKind.i64 x] ∧ ∃ (x_1 : ByteArray), ∃ (h' : AHeap), ACall Try.prog (165 : Nat) [Value.int IntKind.i64 x] (Prod.snd i) (Value.string x_1) h' ∧ ByteArray.size (cat (prfPre (v, q, op, l) (Prod.fst i))) + ByteArray.size x_1 ≤ (9223372036854775807 : Nat) ∧ ∃ (j : Nat × AHeap), Value.complex FloatKind.f32 (0 : Nat) (0 : Nat) = Value.complex FloatKind.f32 (0 : Nat) (0 : Nat) ∧ Value.string (Append.append (cat (prfPre (v, q, op, l) (Prod.fst i))) x_1) = Value.string (cat (prfPre (v, q, op, l) (Prod.fst j))) ∧ Value.int IntKind.i64 (IntKind.wrap IntKind.i64 ((↑(Prod.fst i) : Int) + (1 : Int))) = Value.int IntKind.i64 (↑(Prod.fst j) : Int) ∧ [Value.int IntKind.i64 v, Value.int IntKind.i64 q, Value.string op, Value.slice a (List.length l) c] = [Value.int IntKind.i64 v, Value.int IntKind.i64 q, Value.string op, Value.slice a (List.length l) c] ∧ Prod.snd j = h' ∧ (Prod.fst j ≤ List.length l ∧ AHeap.Le h (Prod.snd j) ∧ AHeap.wf (Prod.snd j)) ∧ List.length l - Prod.fst j < List.length l - Prod.fst i ∧ (∀ (k : AHeap), AHeap.Le h k ∧ AHeap.wf k → AHeap.Le h k ∧ AHeap.wf k) ∧ ∀ (v : Value) (h : AHeap), False → False) (∃ (j : AHeap), Value.string (cat (prfPre (v, q, op, l) (Prod.fst i))) = Value.string (cat (prfPre (v, q, op, l) (List.length l))) ∧ j = Prod.snd i ∧ AHeap.Le h j ∧ AHeap.wf j)) ∧ (True ∧ True ∧ True) ∧ True ∧ True) ∧ True ∧ True) = _) ?_
    simp only [true_and, and_true]
    rintro ⟨i, g⟩ ⟨hi, le, wf⟩
    dsimp only at *
    refine bs_d (fun hlt => ?_) (fun hge => ⟨g, by rw [show i = l.length by omega], rfl, le, wf⟩)
    obtain ⟨x, hat⟩ : ∃ y : Int, l[i]? = some y := ⟨_, List.getElem?_eq_getElem (by omega)⟩
    obtain ⟨lo, r, row, ha, _, hrd, hld⟩ := (h1.mono le).elem hat
    obtain rfl := hrd
    have hx : 0 ≤ x ∧ x ≤ 3 := hl.1.mem (List.mem_of_getElem? hat)
    have hsi := hs i
    have q5 := nb_size (n := x) (by omega)
    obtain ⟨_, g5, A5, le5, w5, rfl⟩ := specPutNum g wf x (by omega)
    unfold nb at q5
    refine ⟨lo, r, ha, Int.natCast_nonneg _, hlt, _, hld, _, _, A5, by omega, (i + 1, _), ?_, by rw [wrap_i64 (by omega)]; rfl, rfl, ⟨by dsimp only; omega, le.trans le5, w5⟩, by dsimp only; omega, fun _ h => h, fun _ _ h => h⟩
    dsimp only
    rw [app1, prfPre_step hat]; try rfl
  refine vc_mp (by kernel_rfl : (∃ (x : ByteArray), ∃ (h' : AHeap), ACall Try.prog (165 : Nat) [Value.int IntKind.i64 v] h (Value.string x) h' ∧ Value.slice a (List.length l) c = Value.slice a (List.length l) c ∧ Value.string op = Value.string op ∧ Value.int IntKind.i64 q = Value.int IntKind.i64 q ∧ ∃ (x_1 : ByteArray), ∃ (h'_1 : AHeap), ACall Try.prog (165 : Nat) [Value.int IntKind.i64 q] h' (Value.string x_1) h'_1 ∧ Value.slice a (List.length l) c = Value.slice a (List.length l) c ∧ Value.string op = Value.string op ∧ ByteArray.size x + ByteArray.size x_1 ≤ (9223372036854775807 : Nat) ∧ ∃ (x_2 : ByteArray), ∃ (h' : AHeap), ACall Try.prog (166 : Nat) [Value.string op] h'_1 (Value.string x_2) h' ∧ Value.slice a (List.length l) c = Value.slice a (List.length l) c ∧ ByteArray.size (Append.append x x_1) + ByteArray.size x_2 ≤ (9223372036854775807 : Nat) ∧ ∃ (x_3 : ByteArray), ∃ (h'_2 : AHeap), ACall Try.prog (165 : Nat) [Value.int IntKind.i64 (↑(List.length l) : Int)] h' (Value.string x_3) h'_2 ∧ ByteArray.size (Append.append (Append.append x x_1) x_2) + ByteArray.size x_3 ≤ (9223372036854775807 : Nat) ∧ ∃ (i : Nat × AHeap), Value.complex FloatKind.f32 (0 : Nat) (0 : Nat) = Value.complex FloatKind.f32 (0 : Nat) (0 : Nat) ∧ Value.string (Append.append (Append.append (Append.append x x_1) x_2) x_3) = Value.string (cat (prfPre (v, q, op, l) (Prod.fst i))) ∧ Value.int IntKind.i64 (0 : Int) = Value.int IntKind.i64 (↑(Prod.fst i) : Int) ∧ [Value.int IntKind.i64 v, Value.int IntKind.i64 q, Value.string op, Value.slice a (List.length l) c] = [Value.int IntKind.i64 v, Value.int IntKind.i64 q, Value.string op, Value.slice a (List.length l) c] ∧ Prod.snd i = h'_2 ∧ (Prod.fst i ≤ List.length l ∧ AHeap.Le h (Prod.snd i) ∧ AHeap.wf (Prod.snd i)) ∧ (∀ (j : AHeap), AHeap.Le h j ∧ AHeap.wf j → Q (Value.string (cat (prfPre (v, q, op, l) (List.length l)))) j) ∧ ∀ (v : Value) (h : AHeap), False → Q v h) = _) ?_
  repeat' first
    | (refine ⟨_, _, ‹ACall _ _ _ _ _ _›, ?_⟩)
    | (refine ⟨rfl, ?_⟩)
    | (refine ⟨by omega, ?_⟩)
    | (refine ⟨by simp only [sz]; omega, ?_⟩)
    | fail
  refine ⟨(0, _), rfl, congrArg _ ?_, rfl, rfl, rfl, ⟨Nat.zero_le _, lg, ‹_›⟩, fun g' hg' => HQ _ _ ⟨hg'.1, hg'.2, rfl⟩, fun _ _ h => h.elim⟩
  rw [l4]; rfl
theorem changeBytes_spec (h : AHeap) (hw : h.wf) (f v : Int) (l : List proofSh.T) (a : Option Addr) (c : Nat) (h1 : Sl h proofSh l (.slice a l.length c)) (H : ChgOk f v l) :
    ∃ r h', ACall Try.prog 167 [.agg #[.int .i64 f, .int .i64 v, .slice a l.length c]] h r h' ∧ h.Le h' ∧ h'.wf ∧ r = .string (chgB (f, v, l)) := by
  refine acall_q fun Q HQ => ?_
  have sz : ∀ a b : ByteArray, (Append.append a b).size = a.size + b.size := fun a b => ByteArray.size_append
  have hs := fun j => chgPre_size H j
  have hl4 := H.len
  obtain ⟨hf, hv, hl⟩ := H
  have q1 := nb_sz hf (by omega) (by omega)
  have q2 := nb_sz hv (by omega) (by omega)
  have q4 := nb_size (n := (l.length : Int)) (by omega)
  unfold InR at hf hv
  obtain ⟨_, g1, A1, le1, w1, rfl⟩ := specPutNum h hw f (by omega)
  obtain ⟨_, g2, A2, le2, w2, rfl⟩ := specPutNum g1 w1 v (by omega)
  obtain ⟨_, g4, A4, le4, w4, rfl⟩ := specPutNum g2 w2 l.length (by omega)
  have lg := le1.trans (le2.trans le4)
  unfold nb at q1 q2 q4
  refine acall_vc (fun _ => false) (fun r => match r with | 1 => [(0, 0, []), (3, 0, []), (7, 0, []), (1, 1, []), (4, 1, []), (8, 1, []), (9, 0, []), (2, 3, [4, 8]), (5, 3, [8]), (6, 0, []), (10, 3, []), (11, 0, []), (12, 0, [])] | _ => []) (fun _ => puL (fun j => cat (chgPre (f, v, l) j)) l.length [.int .i64 f, .int .i64 v, .slice a l.length c] h) mixed Try.func167 rfl rfl rfl (Nat.le_of_ble_eq_true rfl) ?_ ?_
  · refine vc_mp (by kernel_rfl : (True ∧ True ∧ (True ∧ (∀ (i : Nat × AHeap), Prod.fst i ≤ List.length l ∧ AHeap.Le h (Prod.snd i) ∧ AHeap.wf (Prod.snd i) → bs (decide ((↑(Prod.fst i) : Int) < (↑(List.length l) : Int))) (∃ (l_1 : Nat), ∃ (r : Nat), a = some (Addr.mk l_1 r (some (4 : Nat))) ∧ (0 : Int) ≤ (↑(Prod.fst i) : Int) ∧ (↑(Prod.fst i) : Int) < (↑(List.length l) : Int) ∧ ∃ (x : Int), ∃ (x_1 : Int), ∃ (x_2 : ByteArray), ∃ (a_2 : Option Addr), ∃ (n : Nat), ∃ (c_1 : Nat), AHeap.ld (Prod.snd i) l_1 (r + Int.toNat (↑(Prod.fst i) : Int)) (0 : Nat) (4 : Nat) = some [Value.int IntKind.i64 x, Value.int IntKind.i64 x_1, Value.string x_2, Value.slice a_2 n c_1] ∧ ∃ (x_3 : ByteArray), ∃ (h' : AHeap), ACall Try.prog (198 : Nat) [Value.agg (Array.mk [Value.int IntKind.i64 x, Value.int IntKind.i64 x_1, Value.string x_2, Value.slice a_2 n c_1])] (Prod.snd i) (Value.string x_3) h' ∧ ByteArray.size (cat (chgPre (f, v, l) (Prod.fst i))) + ByteArray.size x_3 ≤ (9223372036854775807 : Nat) ∧ ∃ (j : Nat × AHeap), Value.complex FloatKind.f32 (0 : Nat) (0 : Nat) = Value.complex FloatKind.f32 (0 : Nat) (0 : Nat) ∧ Value.string (Append.append (cat (chgPre (f, v, l) (Prod.fst i))) x_3) = Value.string (cat (chgPre (f, v, l) (Prod.fst j))) ∧ Value.int IntKind.i64 (IntKind.wrap IntKind.i64 ((↑(Prod.fst i) : Int) + (1 : Int))) = Value.int IntKind.i64 (↑(Prod.fst j) : Int) ∧ [Value.int IntKind.i64 f, Value.int IntKind.i64 v, Value.slice a (List.length l) c] = [Value.int IntKind.i64 f, Value.int IntKind.i64 v, Value.slice a (List.length l) c] ∧ Prod.snd j = h' ∧ (Prod.fst j ≤ List.length l ∧ AHeap.Le h (Prod.snd j) ∧ AHeap.wf (Prod.snd j)) ∧ List.length l - Prod.fst j < List.length l - Prod.fst i ∧ (∀ (k : AHeap), AHeap.Le h k ∧ AHeap.wf k → AHeap.Le h k ∧ AHeap.wf k) ∧ ∀ (v : Value) (h : AHeap), False → False) (∃ (j : AHeap), Value.string (cat (chgPre (f, v, l) (Prod.fst i))) = Value.string (cat (chgPre (f, v, l) (List.length l))) ∧ j = Prod.snd i ∧ AHeap.Le h j ∧ AHeap.wf j)) ∧ (True ∧ True ∧ True) ∧ True ∧ True) ∧ True ∧ True) = _) ?_
    simp only [true_and, and_true]
    rintro ⟨i, g⟩ ⟨hi, le, wf⟩
    dsimp only at *
    refine bs_d (fun hlt => ?_) (fun hge => ⟨g, by rw [show i = l.length by omega], rfl, le, wf⟩)
    obtain ⟨⟨pv, pq, po, pb⟩, hat⟩ : ∃ y : Int × Int × ByteArray × List Sh.int.T, l[i]? = some y := ⟨_, List.getElem?_eq_getElem (by omega)⟩
    obtain ⟨lo, r, row, ha, _, hrd, hld⟩ := (h1.mono le).elem hat
    obtain ⟨v1, rfl, s1⟩ := rd_proof.1 hrd
    dsimp only at hld s1
    obtain ⟨a2, c2, rfl⟩ := s1.isSlice
    have hx : PrfOk pv pq po pb := (Asc.mem hl (List.mem_of_getElem? hat)).1
    have hsi := hs i
    have q5 : (prfB (pv, pq, po, pb)).size ≤ 200 := prfPre_size hx _
    obtain ⟨_, g5, A5, le5, w5, rfl⟩ := proofBytes_spec g wf pv pq po pb a2 c2 s1 hx
    refine ⟨lo, r, ha, Int.natCast_nonneg _, hlt, _, _, _, _, _, _, hld, _, _, A5, by omega, (i + 1, _), ?_, by rw [wrap_i64 (by omega)]; rfl, rfl, ⟨by dsimp only; omega, le.trans le5, w5⟩, by dsimp only; omega, fun _ h => h, fun _ _ h => h⟩
    dsimp only
    rw [app1, chgPre_step hat]; try rfl
  refine vc_mp (by kernel_rfl : (∃ (x : ByteArray), ∃ (h' : AHeap), ACall Try.prog (165 : Nat) [Value.int IntKind.i64 f] h (Value.string x) h' ∧ Value.slice a (List.length l) c = Value.slice a (List.length l) c ∧ Value.int IntKind.i64 v = Value.int IntKind.i64 v ∧ ∃ (x_1 : ByteArray), ∃ (h'_1 : AHeap), ACall Try.prog (165 : Nat) [Value.int IntKind.i64 v] h' (Value.string x_1) h'_1 ∧ Value.slice a (List.length l) c = Value.slice a (List.length l) c ∧ ByteArray.size x + ByteArray.size x_1 ≤ (9223372036854775807 : Nat) ∧ ∃ (x_2 : ByteArray), ∃ (h' : AHeap), ACall Try.prog (165 : Nat) [Value.int IntKind.i64 (↑(List.length l) : Int)] h'_1 (Value.string x_2) h' ∧ ByteArray.size (Append.append x x_1) + ByteArray.size x_2 ≤ (9223372036854775807 : Nat) ∧ ∃ (i : Nat × AHeap), Value.complex FloatKind.f32 (0 : Nat) (0 : Nat) = Value.complex FloatKind.f32 (0 : Nat) (0 : Nat) ∧ Value.string (Append.append (Append.append x x_1) x_2) = Value.string (cat (chgPre (f, v, l) (Prod.fst i))) ∧ Value.int IntKind.i64 (0 : Int) = Value.int IntKind.i64 (↑(Prod.fst i) : Int) ∧ [Value.int IntKind.i64 f, Value.int IntKind.i64 v, Value.slice a (List.length l) c] = [Value.int IntKind.i64 f, Value.int IntKind.i64 v, Value.slice a (List.length l) c] ∧ Prod.snd i = h' ∧ (Prod.fst i ≤ List.length l ∧ AHeap.Le h (Prod.snd i) ∧ AHeap.wf (Prod.snd i)) ∧ (∀ (j : AHeap), AHeap.Le h j ∧ AHeap.wf j → Q (Value.string (cat (chgPre (f, v, l) (List.length l)))) j) ∧ ∀ (v : Value) (h : AHeap), False → Q v h) = _) ?_
  repeat' first
    | (refine ⟨_, _, ‹ACall _ _ _ _ _ _›, ?_⟩)
    | (refine ⟨rfl, ?_⟩)
    | (refine ⟨by omega, ?_⟩)
    | (refine ⟨by simp only [sz]; omega, ?_⟩)
    | fail
  refine ⟨(0, _), rfl, congrArg _ ?_, rfl, rfl, rfl, ⟨Nat.zero_le _, lg, ‹_›⟩, fun g' hg' => HQ _ _ ⟨hg'.1, hg'.2, rfl⟩, fun _ _ h => h.elim⟩
  rw [l3]; rfl
theorem l10Bytes_spec (h : AHeap) (hw : h.wf) (k f v q : Int) (op : ByteArray) (cs : List changeSh.T) (a : Option Addr) (c : Nat) (h1 : Sl h changeSh cs (.slice a cs.length c)) (H : SayOk k f v q op cs) :
    ∃ r h', ACall Try.prog 103 [.agg #[.int .i64 k, .int .i64 f, .int .i64 v, .int .i64 q, .string op, .slice a cs.length c]] h r h' ∧ h.Le h' ∧ h'.wf ∧ r = .string (sayB k f v q op cs) := by
  refine acall_q fun Q HQ => ?_
  have sz : ∀ a b : ByteArray, (Append.append a b).size = a.size + b.size := fun a b => ByteArray.size_append
  have hs := fun j => sayPre_size H j
  obtain ⟨hk, hf, hv, hq, ho, hl4⟩ := H.nums
  have q1 := nb_sz hk (by omega) (by omega)
  have q2 := nb_sz hf (by omega) (by omega)
  have q3 := nb_sz hv (by omega) (by omega)
  have q4 := nb_sz hq (by omega) (by omega)
  have q5 := vt_size' (t := op) (by omega)
  have q6 := nb_size (n := (cs.length : Int)) (by omega)
  unfold InR at hk hf hv hq
  obtain ⟨_, g1, A1, le1, w1, rfl⟩ := specPutNum h hw k (by omega)
  obtain ⟨_, g2, A2, le2, w2, rfl⟩ := specPutNum g1 w1 f (by omega)
  obtain ⟨_, g3, A3, le3, w3, rfl⟩ := specPutNum g2 w2 v (by omega)
  obtain ⟨_, g4, A4, le4, w4, rfl⟩ := specPutNum g3 w3 q (by omega)
  obtain ⟨_, g5, A5, le5, w5, rfl⟩ := specPutText g4 w4 op (by omega)
  obtain ⟨_, g6, A6, le6, w6, rfl⟩ := specPutNum g5 w5 cs.length (by omega)
  have lg := le1.trans (le2.trans (le3.trans (le4.trans (le5.trans le6))))
  unfold nb at q1 q2 q3 q4 q6
  refine acall_vc (fun _ => false) (fun r => match r with | 1 => [(0, 0, []), (3, 0, []), (7, 0, []), (11, 0, []), (15, 0, []), (19, 0, []), (1, 1, []), (4, 1, []), (8, 1, []), (12, 1, []), (16, 1, []), (20, 1, []), (21, 0, []), (2, 3, [4, 8, 12, 16, 20]), (5, 3, [8, 12, 16, 20]), (6, 0, []), (9, 3, [12, 16, 20]), (10, 0, []), (13, 3, [16, 20]), (14, 0, []), (17, 3, [20]), (18, 0, []), (22, 3, []), (23, 0, []), (24, 0, [])] | _ => []) (fun _ => puL (fun j => cat (sayPre k f v q op cs j)) cs.length [.int .i64 k, .int .i64 f, .int .i64 v, .int .i64 q, .string op, .slice a cs.length c] h) mixed Try.func103 rfl rfl rfl (Nat.le_of_ble_eq_true rfl) ?_ ?_
  · refine vc_mp (by kernel_rfl : (True ∧ True ∧ (True ∧ (∀ (i : Nat × AHeap), Prod.fst i ≤ List.length cs ∧ AHeap.Le h (Prod.snd i) ∧ AHeap.wf (Prod.snd i) → bs (decide ((↑(Prod.fst i) : Int) < (↑(List.length cs) : Int))) (∃ (l : Nat), ∃ (r : Nat), a = some (Addr.mk l r (some (3 : Nat))) ∧ (0 : Int) ≤ (↑(Prod.fst i) : Int) ∧ (↑(Prod.fst i) : Int) < (↑(List.length cs) : Int) ∧ ∃ (x : Int), ∃ (x_1 : Int), ∃ (a_2 : Option Addr), ∃ (n : Nat), ∃ (c_1 : Nat), AHeap.ld (Prod.snd i) l (r + Int.toNat (↑(Prod.fst i) : Int)) (0 : Nat) (3 : Nat) = some [Value.int IntKind.i64 x, Value.int IntKind.i64 x_1, Value.slice a_2 n c_1] ∧ ∃ (x_2 : ByteArray), ∃ (h' : AHeap), ACall Try.prog (167 : Nat) [Value.agg (Array.mk [Value.int IntKind.i64 x, Value.int IntKind.i64 x_1, Value.slice a_2 n c_1])] (Prod.snd i) (Value.string x_2) h' ∧ ByteArray.size (cat (sayPre k f v q op cs (Prod.fst i))) + ByteArray.size x_2 ≤ (9223372036854775807 : Nat) ∧ ∃ (j : Nat × AHeap), Value.complex FloatKind.f32 (0 : Nat) (0 : Nat) = Value.complex FloatKind.f32 (0 : Nat) (0 : Nat) ∧ Value.string (Append.append (cat (sayPre k f v q op cs (Prod.fst i))) x_2) = Value.string (cat (sayPre k f v q op cs (Prod.fst j))) ∧ Value.int IntKind.i64 (IntKind.wrap IntKind.i64 ((↑(Prod.fst i) : Int) + (1 : Int))) = Value.int IntKind.i64 (↑(Prod.fst j) : Int) ∧ [Value.int IntKind.i64 k, Value.int IntKind.i64 f, Value.int IntKind.i64 v, Value.int IntKind.i64 q, Value.string op, Value.slice a (List.length cs) c] = [Value.int IntKind.i64 k, Value.int IntKind.i64 f, Value.int IntKind.i64 v, Value.int IntKind.i64 q, Value.string op, Value.slice a (List.length cs) c] ∧ Prod.snd j = h' ∧ (Prod.fst j ≤ List.length cs ∧ AHeap.Le h (Prod.snd j) ∧ AHeap.wf (Prod.snd j)) ∧ List.length cs - Prod.fst j < List.length cs - Prod.fst i ∧ (∀ (k : AHeap), AHeap.Le h k ∧ AHeap.wf k → AHeap.Le h k ∧ AHeap.wf k) ∧ ∀ (v : Value) (h : AHeap), False → False) (∃ (j : AHeap), Value.string (cat (sayPre k f v q op cs (Prod.fst i))) = Value.string (cat (sayPre k f v q op cs (List.length cs))) ∧ j = Prod.snd i ∧ AHeap.Le h j ∧ AHeap.wf j)) ∧ (True ∧ True ∧ True) ∧ True ∧ True) ∧ True ∧ True) = _) ?_
    simp only [true_and, and_true]
    rintro ⟨i, g⟩ ⟨hi, le, wf⟩
    dsimp only at *
    refine bs_d (fun hlt => ?_) (fun hge => ⟨g, by rw [show i = cs.length by omega], rfl, le, wf⟩)
    obtain ⟨⟨cf, cv, cp⟩, hat⟩ : ∃ y : Int × Int × List proofSh.T, cs[i]? = some y := ⟨_, List.getElem?_eq_getElem (by omega)⟩
    obtain ⟨lo, r, row, ha, _, hrd, hld⟩ := (h1.mono le).elem hat
    obtain ⟨v1, rfl, s1⟩ := rd_change.1 hrd
    dsimp only at hld s1
    obtain ⟨a2, c2, rfl⟩ := s1.isSlice
    have hx : ChgOk cf cv cp := (Asc.mem H.2.2.1 (List.mem_of_getElem? hat)).1
    have hsi := hs i
    have q7 : (chgB (cf, cv, cp)).size ≤ 1230 := chgPre_size hx _
    obtain ⟨_, g7, A7, le7, w7, rfl⟩ := changeBytes_spec g wf cf cv cp a2 c2 s1 hx
    refine ⟨lo, r, ha, Int.natCast_nonneg _, hlt, _, _, _, _, _, hld, _, _, A7, by omega, (i + 1, _), ?_, by rw [wrap_i64 (by omega)]; rfl, rfl, ⟨by dsimp only; omega, le.trans le7, w7⟩, by dsimp only; omega, fun _ h => h, fun _ _ h => h⟩
    dsimp only
    rw [app1, sayPre_step hat]; try rfl
  refine vc_mp (by kernel_rfl : (∃ (x : ByteArray), ∃ (h' : AHeap), ACall Try.prog (165 : Nat) [Value.int IntKind.i64 k] h (Value.string x) h' ∧ Value.slice a (List.length cs) c = Value.slice a (List.length cs) c ∧ Value.string op = Value.string op ∧ Value.int IntKind.i64 q = Value.int IntKind.i64 q ∧ Value.int IntKind.i64 v = Value.int IntKind.i64 v ∧ Value.int IntKind.i64 f = Value.int IntKind.i64 f ∧ ∃ (x_1 : ByteArray), ∃ (h'_1 : AHeap), ACall Try.prog (165 : Nat) [Value.int IntKind.i64 f] h' (Value.string x_1) h'_1 ∧ Value.slice a (List.length cs) c = Value.slice a (List.length cs) c ∧ Value.string op = Value.string op ∧ Value.int IntKind.i64 q = Value.int IntKind.i64 q ∧ Value.int IntKind.i64 v = Value.int IntKind.i64 v ∧ ByteArray.size x + ByteArray.size x_1 ≤ (9223372036854775807 : Nat) ∧ ∃ (x_2 : ByteArray), ∃ (h' : AHeap), ACall Try.prog (165 : Nat) [Value.int IntKind.i64 v] h'_1 (Value.string x_2) h' ∧ Value.slice a (List.length cs) c = Value.slice a (List.length cs) c ∧ Value.string op = Value.string op ∧ Value.int IntKind.i64 q = Value.int IntKind.i64 q ∧ ByteArray.size (Append.append x x_1) + ByteArray.size x_2 ≤ (9223372036854775807 : Nat) ∧ ∃ (x_3 : ByteArray), ∃ (h'_2 : AHeap), ACall Try.prog (165 : Nat) [Value.int IntKind.i64 q] h' (Value.string x_3) h'_2 ∧ Value.slice a (List.length cs) c = Value.slice a (List.length cs) c ∧ Value.string op = Value.string op ∧ ByteArray.size (Append.append (Append.append x x_1) x_2) + ByteArray.size x_3 ≤ (9223372036854775807 : Nat) ∧ ∃ (x_4 : ByteArray), ∃ (h' : AHeap), ACall Try.prog (166 : Nat) [Value.string op] h'_2 (Value.string x_4) h' ∧ Value.slice a (List.length cs) c = Value.slice a (List.length cs) c ∧ ByteArray.size (Append.append (Append.append (Append.append x x_1) x_2) x_3) + ByteArray.size x_4 ≤ (9223372036854775807 : Nat) ∧ ∃ (x_5 : ByteArray), ∃ (h'_3 : AHeap), ACall Try.prog (165 : Nat) [Value.int IntKind.i64 (↑(List.length cs) : Int)] h' (Value.string x_5) h'_3 ∧ ByteArray.size (Append.append (Append.append (Append.append (Append.append x x_1) x_2) x_3) x_4) + ByteArray.size x_5 ≤ (9223372036854775807 : Nat) ∧ ∃ (i : Nat × AHeap), Value.complex FloatKind.f32 (0 : Nat) (0 : Nat) = Value.complex FloatKind.f32 (0 : Nat) (0 : Nat) ∧ Value.string (Append.append (Append.append (Append.append (Append.append (Append.append x x_1) x_2) x_3) x_4) x_5) = Value.string (cat (sayPre k f v q op cs (Prod.fst i))) ∧ Value.int IntKind.i64 (0 : Int) = Value.int IntKind.i64 (↑(Prod.fst i) : Int) ∧ [Value.int IntKind.i64 k, Value.int IntKind.i64 f, Value.int IntKind.i64 v, Value.int IntKind.i64 q, Value.string op, Value.slice a (List.length cs) c] = [Value.int IntKind.i64 k, Value.int IntKind.i64 f, Value.int IntKind.i64 v, Value.int IntKind.i64 q, Value.string op, Value.slice a (List.length cs) c] ∧ Prod.snd i = h'_3 ∧ (Prod.fst i ≤ List.length cs ∧ AHeap.Le h (Prod.snd i) ∧ AHeap.wf (Prod.snd i)) ∧ (∀ (j : AHeap), AHeap.Le h j ∧ AHeap.wf j → Q (Value.string (cat (sayPre k f v q op cs (List.length cs)))) j) ∧ ∀ (v : Value) (h : AHeap), False → Q v h) = _) ?_
  repeat' first
    | (refine ⟨_, _, ‹ACall _ _ _ _ _ _›, ?_⟩)
    | (refine ⟨rfl, ?_⟩)
    | (refine ⟨by omega, ?_⟩)
    | (refine ⟨by simp only [sz]; omega, ?_⟩)
    | fail
  refine ⟨(0, _), rfl, congrArg _ ?_, rfl, rfl, rfl, ⟨Nat.zero_le _, lg, ‹_›⟩, fun g' hg' => HQ _ _ ⟨hg'.1, hg'.2, rfl⟩, fun _ _ h => h.elim⟩
  rw [l6]; rfl
end Go.Proofs.Ytanienlcebkijaa
end
section
namespace Go.Dat
open Go.Abs
theorem BrkSz.all {ts : List topicSh.T} {rs : List replySh.T} (H : BrkSz ts rs) : (brkB ts rs).size ≤ 14000 := H.pre2 _
end Go.Dat
namespace Go.Proofs.Ytanienlcebkijaa
open Go.Abs Go.Dat
set_option maxRecDepth 100000
set_option maxHeartbeats 8000000
end Go.Proofs.Ytanienlcebkijaa
end
section
namespace Go.Dat
open Go.Abs
theorem extract_all (t : ByteArray) : t.extract 0 t.size = t := by simp
end Go.Dat
namespace Go.Proofs.Ytanienlcebkijaa
open Go.Abs Go.Dat
set_option maxRecDepth 100000
set_option maxHeartbeats 8000000
end Go.Proofs.Ytanienlcebkijaa
end
section
namespace Go.Dat
open Go.Abs
def SOk (x : saySh.T) : Prop := SayOk x.1 x.2.1 x.2.2.1 x.2.2.2.1 x.2.2.2.2.1 x.2.2.2.2.2
noncomputable def sayDec (t : ByteArray) : Option saySh.T := match pSay t 0 with
  | none => none
  | some x => bif tr (x.2 = t.size ∧ SOk x.1) then some x.1 else none
theorem sayDec_none {t : ByteArray} (h : pSay t 0 = none) : sayDec t = none := by unfold sayDec; rw [h]
theorem sayDec_no {t : ByteArray} {x : saySh.T} {e : Nat} (h : pSay t 0 = some (x, e)) (hn : ¬ (e = t.size ∧ SOk x)) : sayDec t = none := by
  unfold sayDec; rw [h]; show (bif tr (e = t.size ∧ SOk x) then _ else _) = _; rw [← tr_false hn]; rfl
theorem sayDec_ok {t : ByteArray} {x : saySh.T} {e : Nat} (h : pSay t 0 = some (x, e)) (hn : e = t.size ∧ SOk x) : sayDec t = some x := by
  unfold sayDec; rw [h]; show (bif tr (e = t.size ∧ SOk x) then _ else _) = _; rw [← tr_true hn]; rfl
theorem sayDec_spec {t : ByteArray} {x : saySh.T} (h : sayDec t = some x) : SOk x := by
  unfold sayDec at h
  cases hp : pSay t 0 with
  | none => rw [hp] at h; cases h
  | some z =>
    obtain ⟨y, e⟩ := z
    rw [hp] at h
    dsimp only at h
    cases hc : tr (e = t.size ∧ SOk y) with
    | false => rw [hc] at h; cases h
    | true =>
      rw [hc] at h
      obtain rfl := Option.some.inj h
      exact (of_tr hc).2
theorem pSay_all {t : ByteArray} {k f v q : Int} {op : ByteArray} {cs : List changeSh.T} {e : Nat} (h : pSay t 0 = some ((k, f, v, q, op, cs), e)) : sayB k f v q op cs = t ↔ e = t.size := by
  obtain ⟨h1, h2, h3⟩ := pSay_enc h
  constructor
  · intro H
    have : (t.extract 0 e).size = t.size := by rw [h3, H]
    rw [ByteArray.size_extract] at this
    omega
  · intro H
    rw [← h3, H, extract_all]
def SayRes (h : AHeap) (t : ByteArray) (v : Value) (h' : AHeap) : Prop :=
  (sayDec t = none ∧ ∃ (x1 x2 x3 x4 : Int) (x5 : ByteArray) (a : Option Addr) (n c : Nat), v = .tuple #[.agg #[.int .i64 x1, .int .i64 x2, .int .i64 x3, .int .i64 x4, .string x5, .slice a n c], .bool false]) ∨
  ∃ (x1 x2 x3 x4 : Int) (x5 : ByteArray) (x6 : List changeSh.T) (y : Value) (j : List Nat), sayDec t = some (x1, x2, x3, x4, x5, x6) ∧ v = .tuple #[.agg #[.int .i64 x1, .int .i64 x2, .int .i64 x3, .int .i64 x4, .string x5, y], .bool true] ∧ Sn h' changeSh x6 y j ∧ Fresh h.n h'.n j
end Go.Dat
namespace Go.Proofs.Ytanienlcebkijaa
open Go.Abs Go.Dat
set_option maxRecDepth 100000
set_option maxHeartbeats 8000000
def srL (h : AHeap) (l : Nat) (t : ByteArray) (x1 x2 x3 x4 : Int) (x5 : ByteArray) (N3 a3 : Nat) (b3 : Bool) : LSpec where
  ι := RX changeSh.T
  κ := RX changeSh.T
  I := fun x => LpI changeSh (pChg t) t l (h.n + 1) x ∧ Kp [l] h x.g ∧ x.N = N3 ∧ x.a1 = a3 ∧ x.b1 = b3
  μ := fun x => x.n
  head := fun x => ⟨[(0, .string t), (2, .complex .f32 0 0), (4, .pointer (some ⟨l, 0, some 0⟩)), (5, .complex .f32 1 0), (6, .int .i64 x.n)], [[.int .i64 (Int.ofNat 0), .int .i64 (Int.ofNat 0), .int .i64 (Int.ofNat 0), .int .i64 (Int.ofNat 0), .string ⟨#[]⟩, .slice none 0 0], [.int .i64 x1, .int .i64 x2, .int .i64 x3, .int .i64 x4, .string x5, .slice x.A x.m x.c]], x.g⟩
  post := fun x => ⟨[(0, .string t), (2, .complex .f32 0 0), (4, .pointer (some ⟨l, 0, some 0⟩)), (5, .complex .f32 1 0)], [[.int .i64 (Int.ofNat 0), .int .i64 (Int.ofNat 0), .int .i64 (Int.ofNat 0), .int .i64 (Int.ofNat 0), .string ⟨#[]⟩, .slice none 0 0], [.int .i64 x1, .int .i64 x2, .int .i64 x3, .int .i64 x4, .string x5, .slice x.A x.m x.c]], x.g⟩
  R := fun _ x => LpI changeSh (pChg t) t l (h.n + 1) x ∧ Kp [l] h x.g ∧ x.N = N3 ∧ x.a1 = a3 ∧ x.b1 = b3 ∧ (x.n = 0 ∨ x.b = true)
  ret := fun _ _ _ => False
theorem specSayBytes (h : AHeap) (hw : h.wf) (k f v q : Int) (op : ByteArray) (cs : List changeSh.T) (a : Option Addr) (c : Nat) (h1 : Sl h changeSh cs (.slice a cs.length c)) (ok : (Sh.sl changeSh).ok cs) :
    ∃ r h', ACall Try.prog 37 [.agg #[.int .i64 k, .int .i64 f, .int .i64 v, .int .i64 q, .string op, .slice a cs.length c]] h r h' ∧ h.Le h' ∧ h'.wf ∧ r = .string (bif tr (SayOk k f v q op cs) then sayB k f v q op cs else ⟨#[]⟩) := by
  refine acall_q fun Q HQ => ?_
  refine acall_vc (fun _ => false) (fun _ => []) (fun _ => .none) mixed Try.func37 rfl rfl rfl (Nat.le_of_ble_eq_true rfl) (by refine vc_mp (by kernel_rfl : (True ∧ (True ∧ (True ∧ True) ∧ True) ∧ True ∧ True) = _) ?_; simp only [and_self]) ?_
  refine vc_mp (by kernel_rfl : (∃ (x : Bool), ∃ (h' : AHeap), ACall Try.prog (39 : Nat) [Value.agg (Array.mk [Value.int IntKind.i64 k, Value.int IntKind.i64 f, Value.int IntKind.i64 v, Value.int IntKind.i64 q, Value.string op, Value.slice a (List.length cs) c])] h (Value.bool x) h' ∧ bs (!x) (Q (Value.string (ByteArray.mk (Array.mk []))) h') (∃ (x : ByteArray), ∃ (h'_1 : AHeap), ACall Try.prog (103 : Nat) [Value.agg (Array.mk [Value.int IntKind.i64 k, Value.int IntKind.i64 f, Value.int IntKind.i64 v, Value.int IntKind.i64 q, Value.string op, Value.slice a (List.length cs) c])] h' (Value.string x) h'_1 ∧ Q (Value.string x) h'_1)) = _) ?_
  refine ⟨_, _, sayRight_spec h k f v q op cs a c h1 ok, bs_nb (fun e => ?_) (fun e => ?_)⟩
  · exact HQ _ _ ⟨.refl _, hw, by rw [e]; rfl⟩
  · obtain ⟨_, g1, A1, le1, w1, rfl⟩ := l10Bytes_spec h hw k f v q op cs a c h1 (of_tr e)
    exact ⟨_, _, A1, HQ _ _ ⟨le1, w1, by rw [e]; rfl⟩⟩
theorem l10Read_spec (h : AHeap) (hw : h.wf) (t : ByteArray) (ht : t.size ≤ 20000) : ∃ v h', ACall Try.prog 112 [.string t] h v h' ∧ h.Le h' ∧ h'.wf ∧ SayRes h t v h' := by
  have wp := hw.push (rdO t 0 false)
  have lp := AHeap.Le.push hw (rdO t 0 false)
  have hg0 : (h.push (rdO t 0 false)).get h.n = some (rdO t 0 false) := AHeap.get_push_eq
  obtain ⟨_, g1, A1, w1, o1, x1, a1, b1, rfl, hx1, hg1, R1⟩ := srnum_spec _ wp h.n t 0 false ht (Nat.zero_le _) hg0
  obtain ⟨_, g2, A2, w2, o2, x2, a2, b2, rfl, hx2, hg2, R2⟩ := srnum_spec g1 w1 h.n t a1 b1 ht R1.le hg1
  obtain ⟨_, g3, A3, w3, o3, x3, a3, b3, rfl, hx3, hg3, R3⟩ := srnum_spec g2 w2 h.n t a2 b2 ht R2.le hg2
  obtain ⟨_, g4, A4, w4, o4, x4, a4, b4, rfl, hx4, hg4, R4⟩ := srnum_spec g3 w3 h.n t a3 b3 ht R3.le hg3
  obtain ⟨_, g5, A5, w5, o5, x5, a5, b5, rfl, hx5, hg5, R5⟩ := srtext_spec g4 w4 h.n t a4 b4 ht R4.le hg4
  obtain ⟨_, g6, A6, w6, o6, N6, a6, b6, rfl, hN6, hg6, R6⟩ := srmany_spec g5 w5 h.n t a5 b5 4 (by omega) ht R5.le hg5
  have k6 : Kp [h.n] h g6 := (Kp.of_le lp).trans (o1.kp.trans (o2.kp.trans (o3.kp.trans (o4.kp.trans (o5.kp.trans o6.kp)))))
  have hl : h.n < h.n + 1 := Nat.lt_succ_self _
  have n6 : h.n + 1 ≤ g6.n := Nat.le_trans (Nat.le_refl _) (Nat.le_trans (o1.kp.trans (o2.kp.trans (o3.kp.trans (o4.kp.trans (o5.kp.trans o6.kp))))).n (Nat.le_refl _))
  refine acall_q fun Q HQ => ?_
  refine acall_vc (fun t => t == 9) (fun r => match r with | 10 => [(0, 0, []), (2, 0, []), (1, 1, []), (3, 3, [1]), (4, 3, [1]), (5, 3, []), (6, 0, []), (7, 3, [])] | 11 => [(1, 0, []), (2, 0, []), (3, 0, []), (0, 1, []), (4, 1, []), (5, 0, []), (6, 0, []), (7, 0, []), (8, 0, []), (9, 0, []), (10, 0, []), (13, 0, []), (11, 1, []), (12, 3, [0]), (14, 0, []), (15, 0, []), (16, 3, []), (17, 0, [])] | _ => []) (fun _ => srL h h.n t x1 x2 x3 x4 x5 N6 a6 b6) mixed Try.func112 rfl rfl rfl (Nat.le_of_ble_eq_true rfl) ?_ ?_
  · refine vc_mp (by kernel_rfl : (True ∧ True ∧ True ∧ True ∧ True ∧ True ∧ True ∧ (True ∧ (∀ (i : RX (Sh.T changeSh)), LpI changeSh (pChg t) t (AHeap.n h) (AHeap.n h + (1 : Nat)) i ∧ Kp [AHeap.n h] h (RX.g i) ∧ RX.N i = N6 ∧ RX.a1 i = a6 ∧ RX.b1 i = b6 → bs (decide ((↑(RX.n i) : Int) > (0 : Int))) (∃ (x : Bool), AHeap.ld (RX.g i) (AHeap.n h) (0 : Nat) (2 : Nat) (1 : Nat) = some [Value.bool x] ∧ bs (!x) (∃ (x : Int), ∃ (x_1 : Int), ∃ (a : Option Addr), ∃ (n : Nat), ∃ (c : Nat), ∃ (h' : AHeap), ACall Try.prog (172 : Nat) [Value.pointer (some (Addr.mk (AHeap.n h) (0 : Nat) (some (0 : Nat))))] (RX.g i) (Value.agg (Array.mk [Value.int IntKind.i64 x, Value.int IntKind.i64 x_1, Value.slice a n c])) h' ∧ Value.slice (RX.A i) (RX.m i) (RX.c i) = Value.slice (RX.A i) (RX.m i) (RX.c i) ∧ Value.slice (RX.A i) (RX.m i) (RX.c i) = Value.slice (RX.A i) (RX.m i) (RX.c i) ∧ ∃ (xs : List (List Value)), rowsV (AHeap.push h' (AObj.mk [[Value.int IntKind.i64 x, Value.int IntKind.i64 x_1, Value.slice a n c]] (3 : Nat) true)) (Value.slice (some (Addr.mk (AHeap.n h') (0 : Nat) (some (3 : Nat)))) (1 : Nat) (2 : Nat)) = some xs ∧ (List.all xs fun (row : List Value) => decide (List.length row = (3 : Nat)) && List.all row fun (v : Value) => match v with | Value.agg cells => false | Value.tuple cells => false | Value.complex k re im => false | Value.chan r => false | x => true) = true ∧ (RX.m i + List.length xs) * (40 : Nat) ≤ (140737488355328 : Nat) ∧ ∃ (a_1 : Option Addr), ∃ (n_1 : Nat), ∃ (c_1 : Nat), ∃ (h'_1 : AHeap), AHeap.app (AHeap.push h' (AObj.mk [[Value.int IntKind.i64 x, Value.int IntKind.i64 x_1, Value.slice a n c]] (3 : Nat) true)) (Value.slice (RX.A i) (RX.m i) (RX.c i)) xs (3 : Nat) = some (Value.slice a_1 n_1 c_1, h'_1) ∧ ∃ (j : RX (Sh.T changeSh)), Value.string t = Value.string t ∧ Value.complex FloatKind.f32 (0 : Nat) (0 : Nat) = Value.complex FloatKind.f32 (0 : Nat) (0 : Nat) ∧ Value.pointer (some (Addr.mk (AHeap.n h) (0 : Nat) (some (0 : Nat)))) = Value.pointer (some (Addr.mk (AHeap.n h) (0 : Nat) (some (0 : Nat)))) ∧ Value.complex FloatKind.f32 (1 : Nat) (0 : Nat) = Value.complex FloatKind.f32 (1 : Nat) (0 : Nat) ∧ Value.int IntKind.i64 (IntKind.wrap IntKind.i64 ((↑(RX.n i) : Int) - (1 : Int))) = Value.int IntKind.i64 (↑(RX.n j) : Int) ∧ [Value.int IntKind.i64 (Int.ofNat (0 : Nat)), Value.int IntKind.i64 (Int.ofNat (0 : Nat)), Value.int IntKind.i64 (Int.ofNat (0 : Nat)), Value.int IntKind.i64 (Int.ofNat (0 : Nat)), Value.string (ByteArray.mk (Array.mk [])), Value.slice none (0 : Nat) (0 : Nat)] = [Value.int IntKind.i64 (Int.ofNat (0 : Nat)), Value.int IntKind.i64 (Int.ofNat (0 : Nat)), Value.int IntKind.i64 (Int.ofNat (0 : Nat)), Value.int IntKind.i64 (Int.ofNat (0 : Nat)), Value.string (ByteArray.mk (Array.mk [])), Value.slice none (0 : Nat) (0 : Nat)] ∧ [Value.int IntKind.i64 x1, Value.int IntKind.i64 x2, Value.int IntKind.i64 x3, Value.int IntKind.i64 x4, Value.string x5, Value.slice (RX.A j) (RX.m j) (RX.c j)] = [Value.int IntKind.i64 x1, Value.int IntKind.i64 x2, Value.int IntKind.i64 x3, Value.int IntKind.i64 x4, Value.string x5, Value.slice a_1 n_1 c_1] ∧ RX.g j = h'_1 ∧ (LpI changeSh (pChg t) t (AHeap.n h) (AHeap.n h + (1 : Nat)) j ∧ Kp [AHeap.n h] h (RX.g j) ∧ RX.N j = N6 ∧ RX.a1 j = a6 ∧ RX.b1 j = b6) ∧ RX.n j < RX.n i ∧ (∀ (k : RX (Sh.T changeSh)), LpI changeSh (pChg t) t (AHeap.n h) (AHeap.n h + (1 : Nat)) k ∧ Kp [AHeap.n h] h (RX.g k) ∧ RX.N k = N6 ∧ RX.a1 k = a6 ∧ RX.b1 k = b6 ∧ (RX.n k = (0 : Nat) ∨ RX.b k = true) → LpI changeSh (pChg t) t (AHeap.n h) (AHeap.n h + (1 : Nat)) k ∧ Kp [AHeap.n h] h (RX.g k) ∧ RX.N k = N6 ∧ RX.a1 k = a6 ∧ RX.b1 k = b6 ∧ (RX.n k = (0 : Nat) ∨ RX.b k = true)) ∧ ∀ (v : Value) (h : AHeap), False → False) (∃ (j : RX (Sh.T changeSh)), Value.string t = Value.string t ∧ Value.complex FloatKind.f32 (0 : Nat) (0 : Nat) = Value.complex FloatKind.f32 (0 : Nat) (0 : Nat) ∧ Value.pointer (some (Addr.mk (AHeap.n h) (0 : Nat) (some (0 : Nat)))) = Value.pointer (some (Addr.mk (AHeap.n h) (0 : Nat) (some (0 : Nat)))) ∧ Value.complex FloatKind.f32 (1 : Nat) (0 : Nat) = Value.complex FloatKind.f32 (1 : Nat) (0 : Nat) ∧ [Value.int IntKind.i64 (Int.ofNat (0 : Nat)), Value.int IntKind.i64 (Int.ofNat (0 : Nat)), Value.int IntKind.i64 (Int.ofNat (0 : Nat)), Value.int IntKind.i64 (Int.ofNat (0 : Nat)), Value.string (ByteArray.mk (Array.mk [])), Value.slice none (0 : Nat) (0 : Nat)] = [Value.int IntKind.i64 (Int.ofNat (0 : Nat)), Value.int IntKind.i64 (Int.ofNat (0 : Nat)), Value.int IntKind.i64 (Int.ofNat (0 : Nat)), Value.int IntKind.i64 (Int.ofNat (0 : Nat)), Value.string (ByteArray.mk (Array.mk [])), Value.slice none (0 : Nat) (0 : Nat)] ∧ [Value.int IntKind.i64 x1, Value.int IntKind.i64 x2, Value.int IntKind.i64 x3, Value.int IntKind.i64 x4, Value.string x5, Value.slice (RX.A j) (RX.m j) (RX.c j)] = [Value.int IntKind.i64 x1, Value.int IntKind.i64 x2, Value.int IntKind.i64 x3, Value.int IntKind.i64 x4, Value.string x5, Value.slice (RX.A i) (RX.m i) (RX.c i)] ∧ RX.g j = RX.g i ∧ LpI changeSh (pChg t) t (AHeap.n h) (AHeap.n h + (1 : Nat)) j ∧ Kp [AHeap.n h] h (RX.g j) ∧ RX.N j = N6 ∧ RX.a1 j = a6 ∧ RX.b1 j = b6 ∧ (RX.n j = (0 : Nat) ∨ RX.b j = true))) (∃ (j : RX (Sh.T changeSh)), Value.string t = Value.string t ∧ Value.complex FloatKind.f32 (0 : Nat) (0 : Nat) = Value.complex FloatKind.f32 (0 : Nat) (0 : Nat) ∧ Value.pointer (some (Addr.mk (AHeap.n h) (0 : Nat) (some (0 : Nat)))) = Value.pointer (some (Addr.mk (AHeap.n h) (0 : Nat) (some (0 : Nat)))) ∧ Value.complex FloatKind.f32 (1 : Nat) (0 : Nat) = Value.complex FloatKind.f32 (1 : Nat) (0 : Nat) ∧ [Value.int IntKind.i64 (Int.ofNat (0 : Nat)), Value.int IntKind.i64 (Int.ofNat (0 : Nat)), Value.int IntKind.i64 (Int.ofNat (0 : Nat)), Value.int IntKind.i64 (Int.ofNat (0 : Nat)), Value.string (ByteArray.mk (Array.mk [])), Value.slice none (0 : Nat) (0 : Nat)] = [Value.int IntKind.i64 (Int.ofNat (0 : Nat)), Value.int IntKind.i64 (Int.ofNat (0 : Nat)), Value.int IntKind.i64 (Int.ofNat (0 : Nat)), Value.int IntKind.i64 (Int.ofNat (0 : Nat)), Value.string (ByteArray.mk (Array.mk [])), Value.slice none (0 : Nat) (0 : Nat)] ∧ [Value.int IntKind.i64 x1, Value.int IntKind.i64 x2, Value.int IntKind.i64 x3, Value.int IntKind.i64 x4, Value.string x5, Value.slice (RX.A j) (RX.m j) (RX.c j)] = [Value.int IntKind.i64 x1, Value.int IntKind.i64 x2, Value.int IntKind.i64 x3, Value.int IntKind.i64 x4, Value.string x5, Value.slice (RX.A i) (RX.m i) (RX.c i)] ∧ RX.g j = RX.g i ∧ LpI changeSh (pChg t) t (AHeap.n h) (AHeap.n h + (1 : Nat)) j ∧ Kp [AHeap.n h] h (RX.g j) ∧ RX.N j = N6 ∧ RX.a1 j = a6 ∧ RX.b1 j = b6 ∧ (RX.n j = (0 : Nat) ∨ RX.b j = true))) ∧ (True ∧ True ∧ True) ∧ True ∧ True) ∧ True ∧ True) = _) ?_
    simp only [true_and, and_true]
    rintro ⟨N, a1', b1', n, A, m, c, xs, ids, a', b', g⟩ ⟨I, k, rfl, rfl, rfl⟩
    dsimp only at *
    obtain ⟨_, _, d3, _⟩ := rd_ld I.rd
    have fin : ∀ P : RX changeSh.T → Prop, P ⟨N, a1', b1', n, A, m, c, xs, ids, a', b', g⟩ → ∃ j, P j := fun _ h => ⟨_, h⟩
    refine bs_d (fun hn => ⟨_, d3, bs_nb (fun hb => ?_) (fun hb => fin _ ⟨rfl, rfl, I, k, rfl, rfl, rfl, .inr hb⟩)⟩) (fun hn => fin _ ⟨rfl, rfl, I, k, rfl, rfl, rfl, .inl (by dsimp only; omega)⟩)
    subst hb
    obtain ⟨n, rfl⟩ : ∃ n', n = n' + 1 := ⟨n - 1, by omega⟩
    have hm := I.bnd
    have hl1 := I.rep.len
    have hl2 := I.small
    dsimp only at hm hl1 hl2
    obtain ⟨_, g1, A1, w1, k1, y1, y2, y3, y, J, a2, b2, rfl, S1, F1, ok1, hg1, R1⟩ := srchange_spec g I.sb.wf h.n t a' false ht I.rep.le I.rd
    obtain ⟨u, e, rfl⟩ := S1.so.sl.isSlice
    have lp := AHeap.Le.push w1 ⟨[[.int .i64 y1, .int .i64 y2, .slice u y3.length e]], 3, true⟩
    obtain ⟨l', g2, ids', e1, I2, k2, _, _⟩ := I.step hl (k1.trans (.of_le lp)) (w1.push _) (lp.get _ _ hg1) (y := (y1, y2, y3)) R1 (rn_change.2 ⟨_, J, rfl, rfl, S1.le lp⟩) (by simpa using F1.widen (Nat.le_refl _) lp.n) ok1
    refine ⟨_, _, _, _, _, _, A1, _, rowsV_lit rfl, rfl, by simp only [List.length_singleton]; omega, _, _, _, _, e1, ?_⟩
    exact ⟨⟨N, a1', b1', n, some ⟨l', 0, some 3⟩, m + 1, 0, xs ++ [(y1, y2, y3)], ids', a2, b2, g2⟩, by rw [wrap_i64 (by omega)]; dsimp only; congr 1; omega, rfl, rfl, ⟨I2, I.kp hw (Nat.le_succ _) k k2, rfl, rfl, rfl⟩, by dsimp only; omega, fun _ h => h, fun _ _ h => h⟩
  refine vc_mp (by kernel_rfl : (∃ (x : Int), ∃ (h' : AHeap), ACall Try.prog (169 : Nat) [Value.pointer (some (Addr.mk (AHeap.n h) (0 : Nat) (some (0 : Nat))))] (AHeap.push h (AObj.mk [[Value.string t, Value.int IntKind.i64 (Int.ofNat (0 : Nat)), Value.bool false]] (3 : Nat) true)) (Value.int IntKind.i64 x) h' ∧ ∃ (x_1 : Int), ∃ (h'_1 : AHeap), ACall Try.prog (169 : Nat) [Value.pointer (some (Addr.mk (AHeap.n h) (0 : Nat) (some (0 : Nat))))] h' (Value.int IntKind.i64 x_1) h'_1 ∧ ∃ (x_2 : Int), ∃ (h' : AHeap), ACall Try.prog (169 : Nat) [Value.pointer (some (Addr.mk (AHeap.n h) (0 : Nat) (some (0 : Nat))))] h'_1 (Value.int IntKind.i64 x_2) h' ∧ ∃ (x_3 : Int), ∃ (h'_2 : AHeap), ACall Try.prog (169 : Nat) [Value.pointer (some (Addr.mk (AHeap.n h) (0 : Nat) (some (0 : Nat))))] h' (Value.int IntKind.i64 x_3) h'_2 ∧ ∃ (x_4 : ByteArray), ∃ (h' : AHeap), ACall Try.prog (170 : Nat) [Value.pointer (some (Addr.mk (AHeap.n h) (0 : Nat) (some (0 : Nat))))] h'_2 (Value.string x_4) h' ∧ ∃ (x_5 : Int), ∃ (h'_3 : AHeap), ACall Try.prog (171 : Nat) [Value.pointer (some (Addr.mk (AHeap.n h) (0 : Nat) (some (0 : Nat)))), Value.int IntKind.i64 (4 : Int)] h' (Value.int IntKind.i64 x_5) h'_3 ∧ ∃ (i : RX (Sh.T changeSh)), Value.string t = Value.string t ∧ Value.complex FloatKind.f32 (0 : Nat) (0 : Nat) = Value.complex FloatKind.f32 (0 : Nat) (0 : Nat) ∧ Value.pointer (some (Addr.mk (AHeap.n h) (0 : Nat) (some (0 : Nat)))) = Value.pointer (some (Addr.mk (AHeap.n h) (0 : Nat) (some (0 : Nat)))) ∧ Value.complex FloatKind.f32 (1 : Nat) (0 : Nat) = Value.complex FloatKind.f32 (1 : Nat) (0 : Nat) ∧ Value.int IntKind.i64 x_5 = Value.int IntKind.i64 (↑(RX.n i) : Int) ∧ [Value.int IntKind.i64 (Int.ofNat (0 : Nat)), Value.int IntKind.i64 (Int.ofNat (0 : Nat)), Value.int IntKind.i64 (Int.ofNat (0 : Nat)), Value.int IntKind.i64 (Int.ofNat (0 : Nat)), Value.string (ByteArray.mk (Array.mk [])), Value.slice none (0 : Nat) (0 : Nat)] = [Value.int IntKind.i64 (Int.ofNat (0 : Nat)), Value.int IntKind.i64 (Int.ofNat (0 : Nat)), Value.int IntKind.i64 (Int.ofNat (0 : Nat)), Value.int IntKind.i64 (Int.ofNat (0 : Nat)), Value.string (ByteArray.mk (Array.mk [])), Value.slice none (0 : Nat) (0 : Nat)] ∧ [Value.int IntKind.i64 x1, Value.int IntKind.i64 x2, Value.int IntKind.i64 x3, Value.int IntKind.i64 x4, Value.string x5, Value.slice (RX.A i) (RX.m i) (RX.c i)] = [Value.int IntKind.i64 x, Value.int IntKind.i64 x_1, Value.int IntKind.i64 x_2, Value.int IntKind.i64 x_3, Value.string x_4, Value.slice none (0 : Nat) (0 : Nat)] ∧ RX.g i = h'_3 ∧ (LpI changeSh (pChg t) t (AHeap.n h) (AHeap.n h + (1 : Nat)) i ∧ Kp [AHeap.n h] h (RX.g i) ∧ RX.N i = N6 ∧ RX.a1 i = a6 ∧ RX.b1 i = b6) ∧ (∀ (j : RX (Sh.T changeSh)), LpI changeSh (pChg t) t (AHeap.n h) (AHeap.n h + (1 : Nat)) j ∧ Kp [AHeap.n h] h (RX.g j) ∧ RX.N j = N6 ∧ RX.a1 j = a6 ∧ RX.b1 j = b6 ∧ (RX.n j = (0 : Nat) ∨ RX.b j = true) → ∃ (x : Bool), AHeap.ld (RX.g j) (AHeap.n h) (0 : Nat) (2 : Nat) (1 : Nat) = some [Value.bool x] ∧ bs (!x) (bs (!decide (t = ByteArray.mk (Array.mk []))) (∃ (x : ByteArray), ∃ (h' : AHeap), ACall Try.prog (37 : Nat) [Value.agg (Array.mk [Value.int IntKind.i64 x1, Value.int IntKind.i64 x2, Value.int IntKind.i64 x3, Value.int IntKind.i64 x4, Value.string x5, Value.slice (RX.A j) (RX.m j) (RX.c j)])] (RX.g j) (Value.string x) h' ∧ Value.agg (Array.mk [Value.int IntKind.i64 x1, Value.int IntKind.i64 x2, Value.int IntKind.i64 x3, Value.int IntKind.i64 x4, Value.string x5, Value.slice (RX.A j) (RX.m j) (RX.c j)]) = Value.agg (Array.mk [Value.int IntKind.i64 x1, Value.int IntKind.i64 x2, Value.int IntKind.i64 x3, Value.int IntKind.i64 x4, Value.string x5, Value.slice (RX.A j) (RX.m j) (RX.c j)]) ∧ Q (Value.tuple (Array.mk [Value.agg (Array.mk [Value.int IntKind.i64 x1, Value.int IntKind.i64 x2, Value.int IntKind.i64 x3, Value.int IntKind.i64 x4, Value.string x5, Value.slice (RX.A j) (RX.m j) (RX.c j)]), Value.bool (decide (x = t))])) h') (Q (Value.tuple (Array.mk [Value.agg (Array.mk [Value.int IntKind.i64 x1, Value.int IntKind.i64 x2, Value.int IntKind.i64 x3, Value.int IntKind.i64 x4, Value.string x5, Value.slice (RX.A j) (RX.m j) (RX.c j)]), Value.bool false])) (RX.g j))) (Q (Value.tuple (Array.mk [Value.agg (Array.mk [Value.int IntKind.i64 x1, Value.int IntKind.i64 x2, Value.int IntKind.i64 x3, Value.int IntKind.i64 x4, Value.string x5, Value.slice (RX.A j) (RX.m j) (RX.c j)]), Value.bool false])) (RX.g j))) ∧ ∀ (v : Value) (h : AHeap), False → Q v h) = _) ?_
  refine ⟨_, _, A1, _, _, A2, _, _, A3, _, _, A4, _, _, A5, _, _, A6, ⟨N6, a6, b6, N6, none, 0, 0, [], [], a6, b6, g6⟩, rfl, rfl, rfl, rfl, rfl, rfl, rfl, rfl, ⟨.start w6 n6 (by omega) R6.le hg6, k6, rfl, rfl, rfl⟩, ?_, fun _ _ h => h.elim⟩
  rintro ⟨N, a1', b1', n, A, m, c, xs, ids, a7, b7, g⟩ ⟨I, k, rfl, rfl, rfl, hd⟩
  have R7 := I.fin hd
  have okl := I.okl
  have B := I.sb
  have hgl := I.rd
  dsimp only at *
  have le : h.Le g := k.le hw (fun z hz => by simp at hz; omega)
  obtain ⟨_, _, f2, _⟩ := rd_ld hgl
  have RS := R1.say R2 R3 R4 R5 R6 R7
  have S1 : Sn g changeSh xs (.slice A m c) ids := B.sn
  obtain ⟨_, _, es⟩ := S1.so.sl.isSlice
  cases es
  have bad : ∀ {b : Bool} {g' : AHeap}, b = false → sayDec t = none → h.Le g' → g'.wf → Q (.tuple #[.agg #[.int .i64 x1, .int .i64 x2, .int .i64 x3, .int .i64 x4, .string x5, .slice A xs.length c], .bool b]) g' := fun hb hd le' w' => by
    subst hb
    exact HQ _ _ ⟨le', w', .inl ⟨hd, _, _, _, _, _, _, _, _, rfl⟩⟩
  refine ⟨_, f2, bs_nb (fun hb => ?_) (fun hb => bad rfl (sayDec_none (RS.no rfl hb)) le B.wf)⟩
  have hp := RS.ok rfl hb
  refine bs_dn (fun hne => ?_) (fun hne => ?_)
  · obtain ⟨_, g8, A8, le8, w8, rfl⟩ := specSayBytes g B.wf x1 x2 x3 x4 x5 xs A _ S1.so.sl okl
    refine ⟨_, _, A8, rfl, ?_⟩
    cases hk : tr (SayOk x1 x2 x3 x4 x5 xs) with
    | false => exact bad (decide_eq_false (fun H => hne H.symm)) (sayDec_no hp (fun H => of_trn hk H.2)) (le.trans le8) w8
    | true =>
      by_cases he : a7 = t.size
      · have ed : decide ((bif true then sayB x1 x2 x3 x4 x5 xs else ⟨#[]⟩) = t) = true := decide_eq_true ((pSay_all hp).2 he)
        rw [ed]
        exact HQ _ _ ⟨le.trans le8, w8, .inr ⟨x1, x2, x3, x4, x5, xs, _, ids, sayDec_ok hp ⟨he, of_tr hk⟩, rfl, S1.le le8, B.fr.widen (Nat.le_succ _) le8.n⟩⟩
      · exact bad (decide_eq_false (fun H => he ((pSay_all hp).1 H))) (sayDec_no hp (fun H => he H.1)) (le.trans le8) w8
  · refine bad rfl (sayDec_no hp (fun H => ?_)) le B.wf
    have h1 := (pSay_enc hp).1
    have h2 := ba_nil.1 hne
    omega
end Go.Proofs.Ytanienlcebkijaa
end
