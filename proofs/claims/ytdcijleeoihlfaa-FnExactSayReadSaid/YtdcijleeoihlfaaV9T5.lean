/- Contracts: the bytes of says, in the reference. -/
import Derived.Test.YtdcijleeoihlfaaV9T4
import Derived.Test.YtdcijleeoihlfaaV9S2
namespace Go.Dat
open Go.Abs
theorem l3 (x y z : ByteArray) : Append.append (Append.append x y) z = cat [x, y, z] := by
  show (x ++ y) ++ z = x ++ (y ++ (z ++ ⟨#[]⟩)); rw [ba_append_nil, ba_assoc]
theorem l4 (x y z w : ByteArray) : Append.append (Append.append (Append.append x y) z) w = cat [x, y, z, w] := by
  show ((x ++ y) ++ z) ++ w = x ++ (y ++ (z ++ (w ++ ⟨#[]⟩))); simp only [ba_assoc, ba_append_nil]
theorem l6 (x y z w u v : ByteArray) : Append.append (Append.append (Append.append (Append.append (Append.append x y) z) w) u) v = cat [x, y, z, w, u, v] := by
  show ((((x ++ y) ++ z) ++ w) ++ u) ++ v = x ++ (y ++ (z ++ (w ++ (u ++ (v ++ ⟨#[]⟩))))); simp only [ba_assoc, ba_append_nil]
theorem prfPre_step {v q : Int} {op : ByteArray} {l : List Sh.int.T} {j : Nat} {x : Int} (h : l[j]? = some x) : prfPre (v, q, op, l) (j + 1) = prfPre (v, q, op, l) j ++ [nb x] := by
  unfold prfPre; dsimp only; rw [take_map_snoc (f := nb) (xs := (l : List Int)) h, List.append_assoc]
theorem chgPre_step {f v : Int} {l : List proofSh.T} {j : Nat} {x : proofSh.T} (h : l[j]? = some x) : chgPre (f, v, l) (j + 1) = chgPre (f, v, l) j ++ [prfB x] := by
  unfold chgPre; dsimp only; rw [take_map_snoc (f := prfB) (xs := l) h, List.append_assoc]
theorem sayPre_step {k f v q : Int} {op : ByteArray} {cs : List changeSh.T} {j : Nat} {x : changeSh.T} (h : cs[j]? = some x) : sayPre k f v q op cs (j + 1) = sayPre k f v q op cs j ++ [chgB x] := by
  unfold sayPre; rw [take_map_snoc (f := chgB) (xs := cs) h, List.append_assoc]
end Go.Dat
namespace Go.Proofs.Ytdcijleeoihlfaa
open Go.Abs Go.Dat
set_option maxRecDepth 100000
set_option maxHeartbeats 8000000
def puL (pre : Nat → ByteArray) (n : Nat) (S : List Value) (h : AHeap) : LSpec where
  ι := Nat × AHeap
  κ := AHeap
  I := fun i => i.1 ≤ n ∧ h.Le i.2 ∧ i.2.wf
  μ := fun i => n - i.1
  head := fun i => ⟨[(1, .complex .f32 0 0), (3, .string (pre i.1)), (4, .int .i64 i.1)], [S], i.2⟩
  post := fun j => ⟨[(3, .string (pre n))], [], j⟩
  R := fun _ j => h.Le j ∧ j.wf
  ret := fun _ _ _ => False
theorem proofBytes_spec (h : AHeap) (hw : h.wf) (v q : Int) (op : ByteArray) (l : List Sh.int.T) (a : Option Addr) (c : Nat) (h1 : Sl h Sh.int l (.slice a l.length c)) (H : PrfOk v q op l) :
    ∃ r h', ACall Try.prog 186 [.agg #[.int .i64 v, .int .i64 q, .string op, .slice a l.length c]] h r h' ∧ h.Le h' ∧ h'.wf ∧ r = .string (prfB (v, q, op, l)) := by
  refine acall_q fun Q HQ => ?_
  have sz : ∀ a b : ByteArray, (Append.append a b).size = a.size + b.size := fun a b => ByteArray.size_append
  have hs := fun j => prfPre_size H j
  obtain ⟨hv, hq, ho, hl⟩ := H
  have hl4 := hl.len
  have q1 := nb_sz hv (by omega) (by omega)
  have q2 := nb_sz hq (by omega) (by omega)
  have q3 := vt_size' (t := op) (by omega)
  have q4 := nb_size (n := (l.length : Int)) (by omega)
  unfold InR at hv hq
  obtain ⟨_, g1, A1, le1, w1, rfl⟩ := specPutNum h hw v (by omega)
  obtain ⟨_, g2, A2, le2, w2, rfl⟩ := specPutNum g1 w1 q (by omega)
  obtain ⟨_, g3, A3, le3, w3, rfl⟩ := specPutText g2 w2 op (by omega)
  obtain ⟨_, g4, A4, le4, w4, rfl⟩ := specPutNum g3 w3 l.length (by omega)
  have lg := le1.trans (le2.trans (le3.trans le4))
  unfold nb at q1 q2 q4
  refine acall_vc (fun _ => false) (fun r => match r with | 1 => [(0, 0, []), (3, 0, []), (7, 0, []), (11, 0, []), (1, 1, []), (4, 1, []), (8, 1, []), (12, 1, []), (13, 0, []), (2, 3, [4, 8, 12]), (5, 3, [8, 12]), (6, 0, []), (9, 3, [12]), (10, 0, []), (14, 3, []), (15, 0, []), (16, 0, [])] | _ => []) (fun _ => puL (fun j => cat (prfPre (v, q, op, l) j)) l.length [.int .i64 v, .int .i64 q, .string op, .slice a l.length c] h) mixed Try.func186 rfl rfl rfl (Nat.le_of_ble_eq_true rfl) ?_ ?_
  · refine vc_mp (by kernel_rfl : (True ∧ True ∧ (True ∧ (∀ (i : Nat × AHeap), Prod.fst i ≤ List.length l ∧ AHeap.Le h (Prod.snd i) ∧ AHeap.wf (Prod.snd i) → bs (decide ((↑(Prod.fst i) : Int) < (↑(List.length l) : Int))) (∃ (l_1 : Nat), ∃ (r : Nat), a = some (Addr.mk l_1 r (some (1 : Nat))) ∧ (0 : Int) ≤ (↑(Prod.fst i) : Int) ∧ (↑(Prod.fst i) : Int) < (↑(List.length l) : Int) ∧ ∃ (x : Int), AHeap.ld (Prod.snd i) l_1 (r + Int.toNat (↑(Prod.fst i) : Int)) (0 : Nat) (1 : Nat) = some [Value.int IntKind.i64 x] ∧ ∃ (x_1 : ByteArray), ∃ (h' : AHeap), ACall Try.prog (29 : Nat) [Value.int IntKind.i64 x] (Prod.snd i) (Value.string x_1) h' ∧ ByteArray.size (cat (prfPre (v, q, op, l) (Prod.fst i))) + ByteArray.size x_1 ≤ (9223372036854775807 : Nat) ∧ ∃ (j : Nat × AHeap), Value.complex FloatKind.f32 (0 : Nat) (0 : Nat) = Value.complex FloatKind.f32 (0 : Nat) (0 : Nat) ∧ Value.string (Append.append (cat (prfPre (v, q, op, l) (Prod.fst i))) x_1) = Value.string (cat (prfPre (v, q, op, l) (Prod.fst j))) ∧ Value.int IntKind.i64 (IntKind.wrap IntKind.i64 ((↑(Prod.fst i) : Int) + (1 : Int))) = Value.int IntKind.i64 (↑(Prod.fst j) : Int) ∧ [Value.int IntKind.i64 v, Value.int IntKind.i64 q, Value.string op, Value.slice a (List.length l) c] = [Value.int IntKind.i64 v, Value.int IntKind.i64 q, Value.string op, Value.slice a (List.length l) c] ∧ Prod.snd j = h' ∧ (Prod.fst j ≤ List.length l ∧ AHeap.Le h (Prod.snd j) ∧ AHeap.wf (Prod.snd j)) ∧ List.length l - Prod.fst j < List.length l - Prod.fst i ∧ (∀ (k : AHeap), AHeap.Le h k ∧ AHeap.wf k → AHeap.Le h k ∧ AHeap.wf k) ∧ ∀ (v : Value) (h : AHeap), False → False) (∃ (j : AHeap), Value.string (cat (prfPre (v, q, op, l) (Prod.fst i))) = Value.string (cat (prfPre (v, q, op, l) (List.length l))) ∧ j = Prod.snd i ∧ AHeap.Le h j ∧ AHeap.wf j)) ∧ (True ∧ True ∧ True) ∧ True ∧ True) ∧ True ∧ True) = _) ?_
    simp only [true_and, and_true]
    rintro ⟨i, g⟩ ⟨hi, le, wf⟩
    dsimp only at *
    refine bs_d (fun hlt => ?_) (fun hge => ⟨g, by rw [show i = l.length by omega], rfl, le, wf⟩)
    obtain ⟨x, hat⟩ : ∃ y : Int, l[i]? = some y := ⟨_, List.getElem?_eq_getElem (by omega)⟩
    obtain ⟨lo, r, row, ha, _, hrd, hld⟩ := (h1.mono le).elem hat
    obtain rfl := hrd
    have hx : 0 ≤ x ∧ x ≤ 3 := hl.1.mem (List.mem_of_getElem? hat)
    have hsi := hs i
    have q5 := nb_size (n := x) (by omega)
    obtain ⟨_, g5, A5, le5, w5, rfl⟩ := specPutNum g wf x (by omega)
    unfold nb at q5
    refine ⟨lo, r, ha, Int.natCast_nonneg _, hlt, _, hld, _, _, A5, by omega, (i + 1, _), ?_, by rw [wrap_i64 (by omega)]; rfl, rfl, ⟨by dsimp only; omega, le.trans le5, w5⟩, by dsimp only; omega, fun _ h => h, fun _ _ h => h⟩
    dsimp only
    rw [app1, prfPre_step hat]; try rfl
  refine vc_mp (by kernel_rfl : (∃ (x : ByteArray), ∃ (h' : AHeap), ACall Try.prog (29 : Nat) [Value.int IntKind.i64 v] h (Value.string x) h' ∧ Value.slice a (List.length l) c = Value.slice a (List.length l) c ∧ Value.string op = Value.string op ∧ Value.int IntKind.i64 q = Value.int IntKind.i64 q ∧ ∃ (x_1 : ByteArray), ∃ (h'_1 : AHeap), ACall Try.prog (29 : Nat) [Value.int IntKind.i64 q] h' (Value.string x_1) h'_1 ∧ Value.slice a (List.length l) c = Value.slice a (List.length l) c ∧ Value.string op = Value.string op ∧ ByteArray.size x + ByteArray.size x_1 ≤ (9223372036854775807 : Nat) ∧ ∃ (x_2 : ByteArray), ∃ (h' : AHeap), ACall Try.prog (30 : Nat) [Value.string op] h'_1 (Value.string x_2) h' ∧ Value.slice a (List.length l) c = Value.slice a (List.length l) c ∧ ByteArray.size (Append.append x x_1) + ByteArray.size x_2 ≤ (9223372036854775807 : Nat) ∧ ∃ (x_3 : ByteArray), ∃ (h'_2 : AHeap), ACall Try.prog (29 : Nat) [Value.int IntKind.i64 (↑(List.length l) : Int)] h' (Value.string x_3) h'_2 ∧ ByteArray.size (Append.append (Append.append x x_1) x_2) + ByteArray.size x_3 ≤ (9223372036854775807 : Nat) ∧ ∃ (i : Nat × AHeap), Value.complex FloatKind.f32 (0 : Nat) (0 : Nat) = Value.complex FloatKind.f32 (0 : Nat) (0 : Nat) ∧ Value.string (Append.append (Append.append (Append.append x x_1) x_2) x_3) = Value.string (cat (prfPre (v, q, op, l) (Prod.fst i))) ∧ Value.int IntKind.i64 (0 : Int) = Value.int IntKind.i64 (↑(Prod.fst i) : Int) ∧ [Value.int IntKind.i64 v, Value.int IntKind.i64 q, Value.string op, Value.slice a (List.length l) c] = [Value.int IntKind.i64 v, Value.int IntKind.i64 q, Value.string op, Value.slice a (List.length l) c] ∧ Prod.snd i = h'_2 ∧ (Prod.fst i ≤ List.length l ∧ AHeap.Le h (Prod.snd i) ∧ AHeap.wf (Prod.snd i)) ∧ (∀ (j : AHeap), AHeap.Le h j ∧ AHeap.wf j → Q (Value.string (cat (prfPre (v, q, op, l) (List.length l)))) j) ∧ ∀ (v : Value) (h : AHeap), False → Q v h) = _) ?_
  repeat' first
    | (refine ⟨_, _, ‹ACall _ _ _ _ _ _›, ?_⟩)
    | (refine ⟨rfl, ?_⟩)
    | (refine ⟨by omega, ?_⟩)
    | (refine ⟨by simp only [sz]; omega, ?_⟩)
    | fail
  refine ⟨(0, _), rfl, congrArg _ ?_, rfl, rfl, rfl, ⟨Nat.zero_le _, lg, ‹_›⟩, fun g' hg' => HQ _ _ ⟨hg'.1, hg'.2, rfl⟩, fun _ _ h => h.elim⟩
  rw [l4]; rfl
theorem changeBytes_spec (h : AHeap) (hw : h.wf) (f v : Int) (l : List proofSh.T) (a : Option Addr) (c : Nat) (h1 : Sl h proofSh l (.slice a l.length c)) (H : ChgOk f v l) :
    ∃ r h', ACall Try.prog 168 [.agg #[.int .i64 f, .int .i64 v, .slice a l.length c]] h r h' ∧ h.Le h' ∧ h'.wf ∧ r = .string (chgB (f, v, l)) := by
  refine acall_q fun Q HQ => ?_
  have sz : ∀ a b : ByteArray, (Append.append a b).size = a.size + b.size := fun a b => ByteArray.size_append
  have hs := fun j => chgPre_size H j
  have hl4 := H.len
  obtain ⟨hf, hv, hl⟩ := H
  have q1 := nb_sz hf (by omega) (by omega)
  have q2 := nb_sz hv (by omega) (by omega)
  have q4 := nb_size (n := (l.length : Int)) (by omega)
  unfold InR at hf hv
  obtain ⟨_, g1, A1, le1, w1, rfl⟩ := specPutNum h hw f (by omega)
  obtain ⟨_, g2, A2, le2, w2, rfl⟩ := specPutNum g1 w1 v (by omega)
  obtain ⟨_, g4, A4, le4, w4, rfl⟩ := specPutNum g2 w2 l.length (by omega)
  have lg := le1.trans (le2.trans le4)
  unfold nb at q1 q2 q4
  refine acall_vc (fun _ => false) (fun r => match r with | 1 => [(0, 0, []), (3, 0, []), (7, 0, []), (1, 1, []), (4, 1, []), (8, 1, []), (9, 0, []), (2, 3, [4, 8]), (5, 3, [8]), (6, 0, []), (10, 3, []), (11, 0, []), (12, 0, [])] | _ => []) (fun _ => puL (fun j => cat (chgPre (f, v, l) j)) l.length [.int .i64 f, .int .i64 v, .slice a l.length c] h) mixed Try.func168 rfl rfl rfl (Nat.le_of_ble_eq_true rfl) ?_ ?_
  · refine vc_mp (by kernel_rfl : (True ∧ True ∧ (True ∧ (∀ (i : Nat × AHeap), Prod.fst i ≤ List.length l ∧ AHeap.Le h (Prod.snd i) ∧ AHeap.wf (Prod.snd i) → bs (decide ((↑(Prod.fst i) : Int) < (↑(List.length l) : Int))) (∃ (l_1 : Nat), ∃ (r : Nat), a = some (Addr.mk l_1 r (some (4 : Nat))) ∧ (0 : Int) ≤ (↑(Prod.fst i) : Int) ∧ (↑(Prod.fst i) : Int) < (↑(List.length l) : Int) ∧ ∃ (x : Int), ∃ (x_1 : Int), ∃ (x_2 : ByteArray), ∃ (a_2 : Option Addr), ∃ (n : Nat), ∃ (c_1 : Nat), AHeap.ld (Prod.snd i) l_1 (r + Int.toNat (↑(Prod.fst i) : Int)) (0 : Nat) (4 : Nat) = some [Value.int IntKind.i64 x, Value.int IntKind.i64 x_1, Value.string x_2, Value.slice a_2 n c_1] ∧ ∃ (x_3 : ByteArray), ∃ (h' : AHeap), ACall Try.prog (186 : Nat) [Value.agg (Array.mk [Value.int IntKind.i64 x, Value.int IntKind.i64 x_1, Value.string x_2, Value.slice a_2 n c_1])] (Prod.snd i) (Value.string x_3) h' ∧ ByteArray.size (cat (chgPre (f, v, l) (Prod.fst i))) + ByteArray.size x_3 ≤ (9223372036854775807 : Nat) ∧ ∃ (j : Nat × AHeap), Value.complex FloatKind.f32 (0 : Nat) (0 : Nat) = Value.complex FloatKind.f32 (0 : Nat) (0 : Nat) ∧ Value.string (Append.append (cat (chgPre (f, v, l) (Prod.fst i))) x_3) = Value.string (cat (chgPre (f, v, l) (Prod.fst j))) ∧ Value.int IntKind.i64 (IntKind.wrap IntKind.i64 ((↑(Prod.fst i) : Int) + (1 : Int))) = Value.int IntKind.i64 (↑(Prod.fst j) : Int) ∧ [Value.int IntKind.i64 f, Value.int IntKind.i64 v, Value.slice a (List.length l) c] = [Value.int IntKind.i64 f, Value.int IntKind.i64 v, Value.slice a (List.length l) c] ∧ Prod.snd j = h' ∧ (Prod.fst j ≤ List.length l ∧ AHeap.Le h (Prod.snd j) ∧ AHeap.wf (Prod.snd j)) ∧ List.length l - Prod.fst j < List.length l - Prod.fst i ∧ (∀ (k : AHeap), AHeap.Le h k ∧ AHeap.wf k → AHeap.Le h k ∧ AHeap.wf k) ∧ ∀ (v : Value) (h : AHeap), False → False) (∃ (j : AHeap), Value.string (cat (chgPre (f, v, l) (Prod.fst i))) = Value.string (cat (chgPre (f, v, l) (List.length l))) ∧ j = Prod.snd i ∧ AHeap.Le h j ∧ AHeap.wf j)) ∧ (True ∧ True ∧ True) ∧ True ∧ True) ∧ True ∧ True) = _) ?_
    simp only [true_and, and_true]
    rintro ⟨i, g⟩ ⟨hi, le, wf⟩
    dsimp only at *
    refine bs_d (fun hlt => ?_) (fun hge => ⟨g, by rw [show i = l.length by omega], rfl, le, wf⟩)
    obtain ⟨⟨pv, pq, po, pb⟩, hat⟩ : ∃ y : Int × Int × ByteArray × List Sh.int.T, l[i]? = some y := ⟨_, List.getElem?_eq_getElem (by omega)⟩
    obtain ⟨lo, r, row, ha, _, hrd, hld⟩ := (h1.mono le).elem hat
    obtain ⟨v1, rfl, s1⟩ := rd_proof.1 hrd
    dsimp only at hld s1
    obtain ⟨a2, c2, rfl⟩ := s1.isSlice
    have hx : PrfOk pv pq po pb := (Asc.mem hl (List.mem_of_getElem? hat)).1
    have hsi := hs i
    have q5 : (prfB (pv, pq, po, pb)).size ≤ 200 := prfPre_size hx _
    obtain ⟨_, g5, A5, le5, w5, rfl⟩ := proofBytes_spec g wf pv pq po pb a2 c2 s1 hx
    refine ⟨lo, r, ha, Int.natCast_nonneg _, hlt, _, _, _, _, _, _, hld, _, _, A5, by omega, (i + 1, _), ?_, by rw [wrap_i64 (by omega)]; rfl, rfl, ⟨by dsimp only; omega, le.trans le5, w5⟩, by dsimp only; omega, fun _ h => h, fun _ _ h => h⟩
    dsimp only
    rw [app1, chgPre_step hat]; try rfl
  refine vc_mp (by kernel_rfl : (∃ (x : ByteArray), ∃ (h' : AHeap), ACall Try.prog (29 : Nat) [Value.int IntKind.i64 f] h (Value.string x) h' ∧ Value.slice a (List.length l) c = Value.slice a (List.length l) c ∧ Value.int IntKind.i64 v = Value.int IntKind.i64 v ∧ ∃ (x_1 : ByteArray), ∃ (h'_1 : AHeap), ACall Try.prog (29 : Nat) [Value.int IntKind.i64 v] h' (Value.string x_1) h'_1 ∧ Value.slice a (List.length l) c = Value.slice a (List.length l) c ∧ ByteArray.size x + ByteArray.size x_1 ≤ (9223372036854775807 : Nat) ∧ ∃ (x_2 : ByteArray), ∃ (h' : AHeap), ACall Try.prog (29 : Nat) [Value.int IntKind.i64 (↑(List.length l) : Int)] h'_1 (Value.string x_2) h' ∧ ByteArray.size (Append.append x x_1) + ByteArray.size x_2 ≤ (9223372036854775807 : Nat) ∧ ∃ (i : Nat × AHeap), Value.complex FloatKind.f32 (0 : Nat) (0 : Nat) = Value.complex FloatKind.f32 (0 : Nat) (0 : Nat) ∧ Value.string (Append.append (Append.append x x_1) x_2) = Value.string (cat (chgPre (f, v, l) (Prod.fst i))) ∧ Value.int IntKind.i64 (0 : Int) = Value.int IntKind.i64 (↑(Prod.fst i) : Int) ∧ [Value.int IntKind.i64 f, Value.int IntKind.i64 v, Value.slice a (List.length l) c] = [Value.int IntKind.i64 f, Value.int IntKind.i64 v, Value.slice a (List.length l) c] ∧ Prod.snd i = h' ∧ (Prod.fst i ≤ List.length l ∧ AHeap.Le h (Prod.snd i) ∧ AHeap.wf (Prod.snd i)) ∧ (∀ (j : AHeap), AHeap.Le h j ∧ AHeap.wf j → Q (Value.string (cat (chgPre (f, v, l) (List.length l)))) j) ∧ ∀ (v : Value) (h : AHeap), False → Q v h) = _) ?_
  repeat' first
    | (refine ⟨_, _, ‹ACall _ _ _ _ _ _›, ?_⟩)
    | (refine ⟨rfl, ?_⟩)
    | (refine ⟨by omega, ?_⟩)
    | (refine ⟨by simp only [sz]; omega, ?_⟩)
    | fail
  refine ⟨(0, _), rfl, congrArg _ ?_, rfl, rfl, rfl, ⟨Nat.zero_le _, lg, ‹_›⟩, fun g' hg' => HQ _ _ ⟨hg'.1, hg'.2, rfl⟩, fun _ _ h => h.elim⟩
  rw [l3]; rfl
theorem l10Bytes_spec (h : AHeap) (hw : h.wf) (k f v q : Int) (op : ByteArray) (cs : List changeSh.T) (a : Option Addr) (c : Nat) (h1 : Sl h changeSh cs (.slice a cs.length c)) (H : SayOk k f v q op cs) :
    ∃ r h', ACall Try.prog 137 [.agg #[.int .i64 k, .int .i64 f, .int .i64 v, .int .i64 q, .string op, .slice a cs.length c]] h r h' ∧ h.Le h' ∧ h'.wf ∧ r = .string (sayB k f v q op cs) := by
  refine acall_q fun Q HQ => ?_
  have sz : ∀ a b : ByteArray, (Append.append a b).size = a.size + b.size := fun a b => ByteArray.size_append
  have hs := fun j => sayPre_size H j
  obtain ⟨hk, hf, hv, hq, ho, hl4⟩ := H.nums
  have q1 := nb_sz hk (by omega) (by omega)
  have q2 := nb_sz hf (by omega) (by omega)
  have q3 := nb_sz hv (by omega) (by omega)
  have q4 := nb_sz hq (by omega) (by omega)
  have q5 := vt_size' (t := op) (by omega)
  have q6 := nb_size (n := (cs.length : Int)) (by omega)
  unfold InR at hk hf hv hq
  obtain ⟨_, g1, A1, le1, w1, rfl⟩ := specPutNum h hw k (by omega)
  obtain ⟨_, g2, A2, le2, w2, rfl⟩ := specPutNum g1 w1 f (by omega)
  obtain ⟨_, g3, A3, le3, w3, rfl⟩ := specPutNum g2 w2 v (by omega)
  obtain ⟨_, g4, A4, le4, w4, rfl⟩ := specPutNum g3 w3 q (by omega)
  obtain ⟨_, g5, A5, le5, w5, rfl⟩ := specPutText g4 w4 op (by omega)
  obtain ⟨_, g6, A6, le6, w6, rfl⟩ := specPutNum g5 w5 cs.length (by omega)
  have lg := le1.trans (le2.trans (le3.trans (le4.trans (le5.trans le6))))
  unfold nb at q1 q2 q3 q4 q6
  refine acall_vc (fun _ => false) (fun r => match r with | 1 => [(0, 0, []), (3, 0, []), (7, 0, []), (11, 0, []), (15, 0, []), (19, 0, []), (1, 1, []), (4, 1, []), (8, 1, []), (12, 1, []), (16, 1, []), (20, 1, []), (21, 0, []), (2, 3, [4, 8, 12, 16, 20]), (5, 3, [8, 12, 16, 20]), (6, 0, []), (9, 3, [12, 16, 20]), (10, 0, []), (13, 3, [16, 20]), (14, 0, []), (17, 3, [20]), (18, 0, []), (22, 3, []), (23, 0, []), (24, 0, [])] | _ => []) (fun _ => puL (fun j => cat (sayPre k f v q op cs j)) cs.length [.int .i64 k, .int .i64 f, .int .i64 v, .int .i64 q, .string op, .slice a cs.length c] h) mixed Try.func137 rfl rfl rfl (Nat.le_of_ble_eq_true rfl) ?_ ?_
  · refine vc_mp (by kernel_rfl : (True ∧ True ∧ (True ∧ (∀ (i : Nat × AHeap), Prod.fst i ≤ List.length cs ∧ AHeap.Le h (Prod.snd i) ∧ AHeap.wf (Prod.snd i) → bs (decide ((↑(Prod.fst i) : Int) < (↑(List.length cs) : Int))) (∃ (l : Nat), ∃ (r : Nat), a = some (Addr.mk l r (some (3 : Nat))) ∧ (0 : Int) ≤ (↑(Prod.fst i) : Int) ∧ (↑(Prod.fst i) : Int) < (↑(List.length cs) : Int) ∧ ∃ (x : Int), ∃ (x_1 : Int), ∃ (a_2 : Option Addr), ∃ (n : Nat), ∃ (c_1 : Nat), AHeap.ld (Prod.snd i) l (r + Int.toNat (↑(Prod.fst i) : Int)) (0 : Nat) (3 : Nat) = some [Value.int IntKind.i64 x, Value.int IntKind.i64 x_1, Value.slice a_2 n c_1] ∧ ∃ (x_2 : ByteArray), ∃ (h' : AHeap), ACall Try.prog (168 : Nat) [Value.agg (Array.mk [Value.int IntKind.i64 x, Value.int IntKind.i64 x_1, Value.slice a_2 n c_1])] (Prod.snd i) (Value.string x_2) h' ∧ ByteArray.size (cat (sayPre k f v q op cs (Prod.fst i))) + ByteArray.size x_2 ≤ (9223372036854775807 : Nat) ∧ ∃ (j : Nat × AHeap), Value.complex FloatKind.f32 (0 : Nat) (0 : Nat) = Value.complex FloatKind.f32 (0 : Nat) (0 : Nat) ∧ Value.string (Append.append (cat (sayPre k f v q op cs (Prod.fst i))) x_2) = Value.string (cat (sayPre k f v q op cs (Prod.fst j))) ∧ Value.int IntKind.i64 (IntKind.wrap IntKind.i64 ((↑(Prod.fst i) : Int) + (1 : Int))) = Value.int IntKind.i64 (↑(Prod.fst j) : Int) ∧ [Value.int IntKind.i64 k, Value.int IntKind.i64 f, Value.int IntKind.i64 v, Value.int IntKind.i64 q, Value.string op, Value.slice a (List.length cs) c] = [Value.int IntKind.i64 k, Value.int IntKind.i64 f, Value.int IntKind.i64 v, Value.int IntKind.i64 q, Value.string op, Value.slice a (List.length cs) c] ∧ Prod.snd j = h' ∧ (Prod.fst j ≤ List.length cs ∧ AHeap.Le h (Prod.snd j) ∧ AHeap.wf (Prod.snd j)) ∧ List.length cs - Prod.fst j < List.length cs - Prod.fst i ∧ (∀ (k : AHeap), AHeap.Le h k ∧ AHeap.wf k → AHeap.Le h k ∧ AHeap.wf k) ∧ ∀ (v : Value) (h : AHeap), False → False) (∃ (j : AHeap), Value.string (cat (sayPre k f v q op cs (Prod.fst i))) = Value.string (cat (sayPre k f v q op cs (List.length cs))) ∧ j = Prod.snd i ∧ AHeap.Le h j ∧ AHeap.wf j)) ∧ (True ∧ True ∧ True) ∧ True ∧ True) ∧ True ∧ True) = _) ?_
    simp only [true_and, and_true]
    rintro ⟨i, g⟩ ⟨hi, le, wf⟩
    dsimp only at *
    refine bs_d (fun hlt => ?_) (fun hge => ⟨g, by rw [show i = cs.length by omega], rfl, le, wf⟩)
    obtain ⟨⟨cf, cv, cp⟩, hat⟩ : ∃ y : Int × Int × List proofSh.T, cs[i]? = some y := ⟨_, List.getElem?_eq_getElem (by omega)⟩
    obtain ⟨lo, r, row, ha, _, hrd, hld⟩ := (h1.mono le).elem hat
    obtain ⟨v1, rfl, s1⟩ := rd_change.1 hrd
    dsimp only at hld s1
    obtain ⟨a2, c2, rfl⟩ := s1.isSlice
    have hx : ChgOk cf cv cp := (Asc.mem H.2.2.1 (List.mem_of_getElem? hat)).1
    have hsi := hs i
    have q7 : (chgB (cf, cv, cp)).size ≤ 1230 := chgPre_size hx _
    obtain ⟨_, g7, A7, le7, w7, rfl⟩ := changeBytes_spec g wf cf cv cp a2 c2 s1 hx
    refine ⟨lo, r, ha, Int.natCast_nonneg _, hlt, _, _, _, _, _, hld, _, _, A7, by omega, (i + 1, _), ?_, by rw [wrap_i64 (by omega)]; rfl, rfl, ⟨by dsimp only; omega, le.trans le7, w7⟩, by dsimp only; omega, fun _ h => h, fun _ _ h => h⟩
    dsimp only
    rw [app1, sayPre_step hat]; try rfl
  refine vc_mp (by kernel_rfl : (∃ (x : ByteArray), ∃ (h' : AHeap), ACall Try.prog (29 : Nat) [Value.int IntKind.i64 k] h (Value.string x) h' ∧ Value.slice a (List.length cs) c = Value.slice a (List.length cs) c ∧ Value.string op = Value.string op ∧ Value.int IntKind.i64 q = Value.int IntKind.i64 q ∧ Value.int IntKind.i64 v = Value.int IntKind.i64 v ∧ Value.int IntKind.i64 f = Value.int IntKind.i64 f ∧ ∃ (x_1 : ByteArray), ∃ (h'_1 : AHeap), ACall Try.prog (29 : Nat) [Value.int IntKind.i64 f] h' (Value.string x_1) h'_1 ∧ Value.slice a (List.length cs) c = Value.slice a (List.length cs) c ∧ Value.string op = Value.string op ∧ Value.int IntKind.i64 q = Value.int IntKind.i64 q ∧ Value.int IntKind.i64 v = Value.int IntKind.i64 v ∧ ByteArray.size x + ByteArray.size x_1 ≤ (9223372036854775807 : Nat) ∧ ∃ (x_2 : ByteArray), ∃ (h' : AHeap), ACall Try.prog (29 : Nat) [Value.int IntKind.i64 v] h'_1 (Value.string x_2) h' ∧ Value.slice a (List.length cs) c = Value.slice a (List.length cs) c ∧ Value.string op = Value.string op ∧ Value.int IntKind.i64 q = Value.int IntKind.i64 q ∧ ByteArray.size (Append.append x x_1) + ByteArray.size x_2 ≤ (9223372036854775807 : Nat) ∧ ∃ (x_3 : ByteArray), ∃ (h'_2 : AHeap), ACall Try.prog (29 : Nat) [Value.int IntKind.i64 q] h' (Value.string x_3) h'_2 ∧ Value.slice a (List.length cs) c = Value.slice a (List.length cs) c ∧ Value.string op = Value.string op ∧ ByteArray.size (Append.append (Append.append x x_1) x_2) + ByteArray.size x_3 ≤ (9223372036854775807 : Nat) ∧ ∃ (x_4 : ByteArray), ∃ (h' : AHeap), ACall Try.prog (30 : Nat) [Value.string op] h'_2 (Value.string x_4) h' ∧ Value.slice a (List.length cs) c = Value.slice a (List.length cs) c ∧ ByteArray.size (Append.append (Append.append (Append.append x x_1) x_2) x_3) + ByteArray.size x_4 ≤ (9223372036854775807 : Nat) ∧ ∃ (x_5 : ByteArray), ∃ (h'_3 : AHeap), ACall Try.prog (29 : Nat) [Value.int IntKind.i64 (↑(List.length cs) : Int)] h' (Value.string x_5) h'_3 ∧ ByteArray.size (Append.append (Append.append (Append.append (Append.append x x_1) x_2) x_3) x_4) + ByteArray.size x_5 ≤ (9223372036854775807 : Nat) ∧ ∃ (i : Nat × AHeap), Value.complex FloatKind.f32 (0 : Nat) (0 : Nat) = Value.complex FloatKind.f32 (0 : Nat) (0 : Nat) ∧ Value.string (Append.append (Append.append (Append.append (Append.append (Append.append x x_1) x_2) x_3) x_4) x_5) = Value.string (cat (sayPre k f v q op cs (Prod.fst i))) ∧ Value.int IntKind.i64 (0 : Int) = Value.int IntKind.i64 (↑(Prod.fst i) : Int) ∧ [Value.int IntKind.i64 k, Value.int IntKind.i64 f, Value.int IntKind.i64 v, Value.int IntKind.i64 q, Value.string op, Value.slice a (List.length cs) c] = [Value.int IntKind.i64 k, Value.int IntKind.i64 f, Value.int IntKind.i64 v, Value.int IntKind.i64 q, Value.string op, Value.slice a (List.length cs) c] ∧ Prod.snd i = h'_3 ∧ (Prod.fst i ≤ List.length cs ∧ AHeap.Le h (Prod.snd i) ∧ AHeap.wf (Prod.snd i)) ∧ (∀ (j : AHeap), AHeap.Le h j ∧ AHeap.wf j → Q (Value.string (cat (sayPre k f v q op cs (List.length cs)))) j) ∧ ∀ (v : Value) (h : AHeap), False → Q v h) = _) ?_
  repeat' first
    | (refine ⟨_, _, ‹ACall _ _ _ _ _ _›, ?_⟩)
    | (refine ⟨rfl, ?_⟩)
    | (refine ⟨by omega, ?_⟩)
    | (refine ⟨by simp only [sz]; omega, ?_⟩)
    | fail
  refine ⟨(0, _), rfl, congrArg _ ?_, rfl, rfl, rfl, ⟨Nat.zero_le _, lg, ‹_›⟩, fun g' hg' => HQ _ _ ⟨hg'.1, hg'.2, rfl⟩, fun _ _ h => h.elim⟩
  rw [l6]; rfl
end Go.Proofs.Ytdcijleeoihlfaa
