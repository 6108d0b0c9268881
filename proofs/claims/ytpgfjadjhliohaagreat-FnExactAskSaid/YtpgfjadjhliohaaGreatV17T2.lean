/- T2. -/
import Derived.Test.YtpgfjadjhliohaaGreatV17T1
namespace Go.Dat
open Go.Abs
theorem ba_nil {t : ByteArray} : t = ⟨#[]⟩ ↔ t.size = 0 := ⟨fun h => by rw [h]; rfl, fun h => by
  obtain ⟨⟨l⟩⟩ := t
  cases l with
  | nil => rfl
  | cons x xs => cases h⟩
end Go.Dat
namespace Go.Proofs.YtpgfjadjhliohaaGreat
open Go.Abs Go.Dat
set_option maxRecDepth 100000
set_option maxHeartbeats 8000000
abbrev ChgAt (v : Int) (ps : List proofSh.T) (i : Nat) : Prop := AscAt (fun p : proofSh.T => p.2.1) (fun p : proofSh.T => PrfOk p.1 p.2.1 p.2.2.1 p.2.2.2 ∧ (show Int from p.1) < v) ps i
def chL (f v : Int) (ps : List proofSh.T) (a : Option Addr) (c : Nat) (h : AHeap) (hd : Nat → List (Nat × Value)) (S : List (List Value)) (po : List (Nat × Value)) : LSpec where
  ι := Nat
  κ := Unit
  I := fun i => i ≤ ps.length ∧ ∀ j, j < i → ChgAt v ps j
  μ := fun i => ps.length - i
  head := fun i => ⟨(1, .complex .f32 0 0) :: hd i, [[.int .i64 f, .int .i64 v, .slice a ps.length c]], h⟩
  post := fun _ => ⟨po, S, h⟩
  R := fun _ _ => ∀ j, j < ps.length → ChgAt v ps j
  ret := fun _ r h' => r = .bool false ∧ h' = h ∧ ∃ j, j < ps.length ∧ ¬ ChgAt v ps j
def Q3v (a b c : Prop) := a ∧ b ∧ c
def Q3w (a b c d : Prop) := Q3v True a (Q3v b c d)
def Q3x := True ∧ True
def Q3y (a : Prop) := Q3v a True (Q3x ∧ True)
def Q3z (a : Prop) := Q3v True a True
def Q40 (a : Sh.T proofSh → Prop) (b : List (Sh.T proofSh)) (c : Nat) := AscAt (fun (p : Sh.T proofSh) => Prod.fst (Prod.snd p)) a b c
def Q41 (a : Nat) (b : List (Sh.T proofSh)) (c : Sh.T proofSh → Prop) (d : List (Sh.T proofSh)) (e : Nat) := a < List.length b → Q40 c d e
def Q42 (a : Int × Sh.T (Sh.pair Sh.int (Sh.pair Sh.str (Sh.sl Sh.int)))) (b : Sh.T Sh.int × Int × Sh.T (Sh.pair Sh.str (Sh.sl Sh.int))) (c : Sh.T Sh.int × Sh.T Sh.int × ByteArray × Sh.T (Sh.sl Sh.int)) (d : Sh.T Sh.int × Sh.T Sh.int × Sh.T Sh.str × List (Sh.T Sh.int)) (e : Sh.T Sh.int × Sh.T (Sh.pair Sh.int (Sh.pair Sh.str (Sh.sl Sh.int)))) (f : Sh.T Sh.int) := PrfOk (Prod.fst a) (Prod.fst (Prod.snd b)) (Prod.fst (Prod.snd (Prod.snd c))) (Prod.snd (Prod.snd (Prod.snd d))) ∧ Prod.fst e < f
def Q43 := (0 : Int)
def Q44 (a : Option Addr) (b c : Nat) (d : Int) (e f : Prop) := Q3v (a = some (Addr.mk b c (some 4))) (Q43 ≤ d) (e ∧ f)
def Q45 := Value.bool false
def Q46 (a : Value) (b c : AHeap) (d : Prop) := Q3v (a = Q45) (b = c) d
def Q47 (a : Bool) (b c : AHeap) (d e : Prop) := bs a (Q46 Q45 b c d) e
def Q48 := Value.complex FloatKind.f32 0 0
def Q49 (a b c d : Prop) := Q3v (Q48 = Q48) a (Q3v b c d)
def Q4a (a : Nat) (b : List (Sh.T proofSh)) (c : Sh.T proofSh → Prop) (d : List (Sh.T proofSh)) (e : Nat) := a < List.length b ∧ Not (Q40 c d e)
def Q4b (a : List (Sh.T proofSh)) (b : Nat) := List.length a - b
def Q4c (a : Nat) (b : List (Sh.T proofSh)) (c : Prop) := a ≤ List.length b ∧ c
def Q4d (a : Option Addr) (b : List (Sh.T proofSh)) (c : Nat) := Value.slice a (List.length b) c
def Q4e (a : Int) := Value.int IntKind.i64 a
def Q4f (a b : Int) (c : Option Addr) (d : List (Sh.T proofSh)) (e : Nat) (f g : Int) (h : Option Addr) (i : List (Sh.T proofSh)) (j : Nat) := [Q4e a, Q4e b, Q4d c d e] = [Q4e f, Q4e g, Q4d h i j]
def Q4g := (1 : Int)
def Q4h (a b : Nat) := Q4e (IntKind.wrap IntKind.i64 ((↑a : Int) + Q4g)) = Q4e (↑b : Int)
def Q4i (a : AHeap) (b c : Nat) (d e : Int) := AHeap.ld a b (c + Int.toNat d) 1 1 = some [Q4e e]
def Q4j (a : Nat) := IntKind.wrap IntKind.i64 ((↑a : Int) - Q4g)
def Q4k (a : List (Sh.T proofSh)) := (↑(List.length a) : Int)
def Q4l (a : FuncId) (b : List Value) (c : AHeap) (d : Bool) (e : AHeap) := ACall Tryz.prog a b c (Value.bool d) e
def Q4m (a : List Value) := Value.agg (Array.mk a)
def Q4n (a b : Int) (c : ByteArray) (d : Option Addr) (e f : Nat) := [Q4e a, Q4e b, Value.string c, Value.slice d e f]
def Q4o (a : AHeap) (b c : Nat) (d : Int) (e : Nat) := AHeap.ld a b (c + Int.toNat d) 0 e
noncomputable def Q4p (a : Prop) := Value.bool (tr a)
def Q4q (a : Value) (b c : Int) (d : List (Sh.T proofSh)) := a = Q4p (ChgOk b c d)
def Q4r (a : Nat) := Q4e Q43 = Q4e (↑a : Int)
theorem changeRight_spec (h : AHeap) (f v : Int) (ps : List proofSh.T) (a : Option Addr) (c : Nat) (h1 : Sl h proofSh ps (.slice a ps.length c)) (ok : (Sh.sl proofSh).ok ps) :
    ACall Tryz.prog 118 [.agg #[.int .i64 f, .int .i64 v, .slice a ps.length c]] h (.bool (tr (ChgOk f v ps))) h := by
  have n1 : ps.length ≤ 9223372036854775807 := ok.1
  refine acall_out (acall_vc (fun _ => false) (fun r => match r with | 7 => [(0, 1, []), (1, 3, []), (2, 0, []), (3, 0, []), (4, 0, []), (6, 0, []), (5, 1, []), (7, 1, []), (8, 0, []), (9, 0, []), (10, 0, []), (11, 0, []), (12, 0, []), (13, 0, []), (14, 0, []), (16, 0, []), (17, 0, []), (21, 0, []), (15, 1, []), (18, 0, []), (19, 0, []), (20, 1, []), (22, 1, []), (23, 0, []), (24, 0, []), (25, 0, [])] | _ => []) (fun _ => chL f v ps a c h (fun i => [(3, .int .i64 i)]) [] []) mixed Tryz.func118 rfl rfl rfl (Nat.le_of_ble_eq_true rfl) ?_ ?_)
  · (refine vc_mp (by kernel_rfl : (Q3w (Q3z Q3x) (Q3w (∀ (i : Nat), Q4c i ps (∀ (j : Nat), j < i → Q40 (fun (p : Sh.T proofSh) => Q42 p p p p p v) ps j) → bs (decide ((↑i : Int) < Q4k ps)) (∃ (l r : Nat), Q44 a l r (↑i : Int) ((↑i : Int) < Q4k ps) (∃ (x x_1 : Int) (x_2 : ByteArray) (a_2 : Option Addr) (n c_1 : Nat), Q4o h l r (↑i : Int) 4 = some (Q4n x x_1 x_2 a_2 n c_1) ∧ (∃ (x_3 : Bool) (h' : AHeap), Q4l 153 [Q4m (Q4n x x_1 x_2 a_2 n c_1)] h x_3 h' ∧ Q47 (not x_3) h' h (∃ (j : Nat), Q4a j ps (fun (p : Sh.T proofSh) => Q42 p p p p p v) ps j) (Q47 (decide (x ≥ v)) h' h (∃ (j : Nat), Q4a j ps (fun (p : Sh.T proofSh) => Q42 p p p p p v) ps j) (bs (decide ((↑i : Int) > Q43)) (∃ (l r : Nat), Q44 a l r (Q4j i) (Q4j i < Q4k ps) (∃ (x : Int), Q4i h' l r (Q4j i) x ∧ Q47 (decide (x ≥ x_1)) h' h (∃ (j : Nat), Q4a j ps (fun (p : Sh.T proofSh) => Q42 p p p p p v) ps j) (∃ (j : Nat), Q49 (Q4h i j) (Q4f f v a ps c f v a ps c) (h = h') (Q3v (Q4c j ps (∀ (j_1 : Nat), j_1 < j → Q40 (fun (p : Sh.T proofSh) => Q42 p p p p p v) ps j_1)) (Q4b ps j < Q4b ps i) ((∀ (k : Unit), (∀ (j : Nat), Q41 j ps (fun (p : Sh.T proofSh) => Q42 p p p p p v) ps j) → (∀ (j : Nat), Q41 j ps (fun (p : Sh.T proofSh) => Q42 p p p p p v) ps j)) ∧ (∀ (v_1 : Value) (h_1 : AHeap), Q46 v_1 h_1 h (∃ (j : Nat), Q4a j ps (fun (p : Sh.T proofSh) => Q42 p p p p p v) ps j) → Q46 v_1 h_1 h (∃ (j : Nat), Q4a j ps (fun (p : Sh.T proofSh) => Q42 p p p p p v) ps j))))))) (∃ (j : Nat), Q49 (Q4h i j) (Q4f f v a ps c f v a ps c) (h = h') (Q3v (Q4c j ps (∀ (j_1 : Nat), j_1 < j → Q40 (fun (p : Sh.T proofSh) => Q42 p p p p p v) ps j_1)) (Q4b ps j < Q4b ps i) ((∀ (k : Unit), (∀ (j : Nat), Q41 j ps (fun (p : Sh.T proofSh) => Q42 p p p p p v) ps j) → (∀ (j : Nat), Q41 j ps (fun (p : Sh.T proofSh) => Q42 p p p p p v) ps j)) ∧ (∀ (v_1 : Value) (h_1 : AHeap), Q46 v_1 h_1 h (∃ (j : Nat), Q4a j ps (fun (p : Sh.T proofSh) => Q42 p p p p p v) ps j) → Q46 v_1 h_1 h (∃ (j : Nat), Q4a j ps (fun (p : Sh.T proofSh) => Q42 p p p p p v) ps j)))))))))) (∃ (j : Unit), h = h ∧ (∀ (j : Nat), Q41 j ps (fun (p : Sh.T proofSh) => Q42 p p p p p v) ps j))) (Q3z True) (Q3y True) True) True True) = _) ?_; delta Q3v Q3w Q3x Q3y Q3z Q40 Q41 Q42 Q43 Q44 Q45 Q46 Q47 Q48 Q49 Q4a Q4b Q4c Q4d Q4e Q4f Q4g Q4h Q4i Q4j Q4k Q4l Q4m Q4n Q4o)
    simp only [true_and, and_true]
    rintro (i : Nat) ⟨hi, hall⟩
    refine bs_d (fun hlt => ?_) (fun hge => ⟨(), fun j hj => hall j (by omega)⟩)
    have hio : i < ps.length := by omega
    obtain ⟨⟨pv, pq, po, pb⟩, hat⟩ : ∃ y : Int × Int × ByteArray × List Sh.int.T, ps[i]? = some y := ⟨_, List.getElem?_eq_getElem hio⟩
    obtain ⟨lo, r, row, ha, _, hrd, hld⟩ := h1.elem hat
    obtain ⟨v1, rfl, s1⟩ := rd_proof.1 hrd
    dsimp only at hld s1
    obtain ⟨a2, c2, rfl⟩ := s1.isSlice
    have okp := ok.2 (pv, pq, po, pb) (List.mem_of_getElem? hat)
    refine ⟨lo, r, ha, Int.natCast_nonneg _, hlt, _, _, _, _, _, _, hld, _, _, proofRight_spec h pv pq po pb a2 c2 s1 okp.2.2.2, bs_nb (fun e => ⟨rfl, i, hio, fun H => of_trn e (H.out hat).1.1⟩) (fun e1 => bs_d (fun e => ⟨rfl, i, hio, fun H => ?_⟩) (fun e2 => bs_d (fun hpos => ?_) (fun hpos => ?_)))⟩
    · have h2 : pv < v := (H.out hat).1.2
      omega
    · rw [wrap_pred (i := i) (by omega) (by omega)]
      obtain ⟨⟨yv, yq, yr⟩, hat2⟩ : ∃ y : Int × Int × ByteArray × List Sh.int.T, ps[i - 1]? = some y := ⟨_, List.getElem?_eq_getElem (by omega)⟩
      obtain ⟨lo', r', row', ha', _, hrd', hld'⟩ := h1.elem hat2
      obtain ⟨v2, rfl, _⟩ := rd_proof.1 hrd'
      dsimp only at hld'
      refine ⟨lo', r', ha', Int.natCast_nonneg _, by omega, _, ld_cells (k := 1) (m := 1) hld' (by simp), bs_d (fun e => ⟨rfl, i, hio, fun H => ?_⟩) (fun e3 => ?_)⟩
      · have h2 : yq < pq := (H.out hat).2 (yv, yq, yr) (by omega) hat2
        omega
      · exact ⟨i + 1, by rw [wrap_i64 (by omega)]; rfl, rfl, ⟨by omega, upto_step hall (.mk1 hat ⟨of_tr e1, by show pv < v; omega⟩ hat2 (by show yq < pq; omega))⟩, by omega, fun _ h => h, fun _ _ h => h⟩
    · exact ⟨i + 1, by rw [wrap_i64 (by omega)]; rfl, rfl, ⟨by omega, upto_step hall (.mk0 hat ⟨of_tr e1, by show pv < v; omega⟩ (by omega))⟩, by omega, fun _ h => h, fun _ _ h => h⟩
  (refine vc_mp (by kernel_rfl : (∃ (x : Bool) (h' : AHeap), Q4l 76 [Q4e f] h x h' ∧ bs (not x) (Q4q Q45 f v ps ∧ h' = h) (∃ (x : Bool) (h'_1 : AHeap), Q4l 78 [Q4e v, Q4e Q4g, Q4e 7] h' x h'_1 ∧ bs (not x) (Q4q Q45 f v ps ∧ h'_1 = h) (∃ (i : Nat), Q49 (Q4r i) (Q4f f v a ps c f v a ps c) (h = h'_1) (Q3v (Q4c i ps (∀ (j : Nat), j < i → Q40 (fun (p : Sh.T proofSh) => Q42 p p p p p v) ps j)) (∀ (j : Unit), (∀ (j : Nat), Q41 j ps (fun (p : Sh.T proofSh) => Q42 p p p p p v) ps j) → Q4q (Value.bool true) f v ps ∧ h = h) (∀ (v_1 : Value) (h_1 : AHeap), Q46 v_1 h_1 h (∃ (j : Nat), Q4a j ps (fun (p : Sh.T proofSh) => Q42 p p p p p v) ps j) → Q4q v_1 f v ps ∧ h_1 = h))))) = _) ?_; delta Q3v Q40 Q41 Q42 Q43 Q45 Q46 Q48 Q49 Q4a Q4c Q4d Q4e Q4f Q4g Q4l Q4p Q4q Q4r)
  refine ⟨_, _, l09Who_spec _ _, bs_nb (fun e => ⟨congrArg _ (tr_false fun H => inF e H.1), rfl⟩) (fun e1 => ⟨_, _, l03Is_spec _ _ _ _, bs_nb (fun e => ⟨congrArg _ (tr_false fun H => inF e H.2.1), rfl⟩) (fun e2 => ?_)⟩)⟩
  exact ⟨(0 : Nat), rfl, rfl, rfl, rfl, ⟨Nat.zero_le _, fun j hj => absurd hj (Nat.not_lt_zero _)⟩, fun _ hall => ⟨congrArg _ (tr_true ⟨inT e1, inT e2, hall⟩), rfl⟩, fun v h1 ⟨e1, e2, j, hj, hn⟩ => ⟨e1.trans (congrArg _ (tr_false fun H => hn (H.2.2 j hj))), e2⟩⟩
def Q4s (a : List (Sh.T proofSh)) := Q4e (↑(List.length a) : Int)
theorem isChange_spec (h : AHeap) (f v : Int) (ps : List proofSh.T) (a : Option Addr) (c : Nat) (h1 : Sl h proofSh ps (.slice a ps.length c)) (ok : (Sh.sl proofSh).ok ps) :
    ACall Tryz.prog 92 [.agg #[.int .i64 f, .int .i64 v, .slice a ps.length c]] h (.bool (tr (ChgOk f v ps))) h := by
  have n1 : ps.length ≤ 9223372036854775807 := ok.1
  refine acall_out (acall_vc (fun _ => false) (fun r => match r with | 4 => [(0, 1, []), (1, 3, []), (2, 0, []), (3, 0, []), (4, 0, []), (5, 0, []), (6, 0, []), (7, 0, []), (9, 0, []), (10, 0, []), (14, 0, []), (8, 1, []), (11, 0, []), (12, 0, []), (13, 1, []), (15, 1, []), (16, 0, []), (17, 0, []), (18, 0, []), (19, 0, []), (20, 0, []), (22, 0, []), (21, 1, []), (23, 1, []), (24, 0, []), (25, 0, [])] | _ => []) (fun _ => chL f v ps a c h (fun i => [(6, .slice a ps.length c), (7, .int .i64 ps.length), (8, .int .i64 i)]) [[.int .i64 f, .int .i64 v, .slice a ps.length c]] [(1, .complex .f32 0 0)]) mixed Tryz.func92 rfl rfl rfl (Nat.le_of_ble_eq_true rfl) ?_ ?_)
  · (refine vc_mp (by kernel_rfl : (Q3v True (Q3w (∀ (i : Nat), Q4c i ps (∀ (j : Nat), j < i → Q40 (fun (p : Sh.T proofSh) => Q42 p p p p p v) ps j) → bs (decide ((↑i : Int) < Q4k ps)) (∃ (l r : Nat), Q44 a l r (↑i : Int) ((↑i : Int) < Q4k ps) (∃ (x x_1 : Int) (x_2 : ByteArray) (a_2 : Option Addr) (n c_1 : Nat), Q4o h l r (↑i : Int) 4 = some (Q4n x x_1 x_2 a_2 n c_1) ∧ (∃ (x_3 : Bool) (h' : AHeap), Q4l 135 [Q4m (Q4n x x_1 x_2 a_2 n c_1)] h x_3 h' ∧ Q47 (not x_3) h' h (∃ (j : Nat), Q4a j ps (fun (p : Sh.T proofSh) => Q42 p p p p p v) ps j) (bs (decide ((↑i : Int) > Q43)) (∃ (l r : Nat), Q44 a l r (Q4j i) (Q4j i < Q4k ps) (∃ (x_4 : Int), Q4i h' l r (Q4j i) x_4 ∧ Q47 (decide (x_4 ≥ x_1)) h' h (∃ (j : Nat), Q4a j ps (fun (p : Sh.T proofSh) => Q42 p p p p p v) ps j) (Q47 (decide (x ≥ v)) h' h (∃ (j : Nat), Q4a j ps (fun (p : Sh.T proofSh) => Q42 p p p p p v) ps j) (∃ (j : Nat), Q49 (Q4d a ps c = Q4d a ps c) (Q4s ps = Q4s ps) (Q4h i j) (Q3v (Q4f f v a ps c f v a ps c) (h = h') (Q3v (Q4c j ps (∀ (j_1 : Nat), j_1 < j → Q40 (fun (p : Sh.T proofSh) => Q42 p p p p p v) ps j_1)) (Q4b ps j < Q4b ps i) ((∀ (k : Unit), (∀ (j : Nat), Q41 j ps (fun (p : Sh.T proofSh) => Q42 p p p p p v) ps j) → (∀ (j : Nat), Q41 j ps (fun (p : Sh.T proofSh) => Q42 p p p p p v) ps j)) ∧ (∀ (v_1 : Value) (h_1 : AHeap), Q46 v_1 h_1 h (∃ (j : Nat), Q4a j ps (fun (p : Sh.T proofSh) => Q42 p p p p p v) ps j) → Q46 v_1 h_1 h (∃ (j : Nat), Q4a j ps (fun (p : Sh.T proofSh) => Q42 p p p p p v) ps j))))))))) (Q47 (decide (x ≥ v)) h' h (∃ (j : Nat), Q4a j ps (fun (p : Sh.T proofSh) => Q42 p p p p p v) ps j) (∃ (j : Nat), Q49 (Q4d a ps c = Q4d a ps c) (Q4s ps = Q4s ps) (Q4h i j) (Q3v (Q4f f v a ps c f v a ps c) (h = h') (Q3v (Q4c j ps (∀ (j_1 : Nat), j_1 < j → Q40 (fun (p : Sh.T proofSh) => Q42 p p p p p v) ps j_1)) (Q4b ps j < Q4b ps i) ((∀ (k : Unit), (∀ (j : Nat), Q41 j ps (fun (p : Sh.T proofSh) => Q42 p p p p p v) ps j) → (∀ (j : Nat), Q41 j ps (fun (p : Sh.T proofSh) => Q42 p p p p p v) ps j)) ∧ (∀ (v_1 : Value) (h_1 : AHeap), Q46 v_1 h_1 h (∃ (j : Nat), Q4a j ps (fun (p : Sh.T proofSh) => Q42 p p p p p v) ps j) → Q46 v_1 h_1 h (∃ (j : Nat), Q4a j ps (fun (p : Sh.T proofSh) => Q42 p p p p p v) ps j))))))))))) (∃ (j : Unit), Q3v (Q48 = Q48) (Q4f f v a ps c f v a ps c) (h = h ∧ (∀ (j : Nat), Q41 j ps (fun (p : Sh.T proofSh) => Q42 p p p p p v) ps j)))) True Q3x (Q3y True ∧ True)) (True ∧ True)) = _) ?_; delta Q3v Q3w Q3x Q3y Q40 Q41 Q42 Q43 Q44 Q45 Q46 Q47 Q48 Q49 Q4a Q4b Q4c Q4d Q4e Q4f Q4g Q4h Q4i Q4j Q4k Q4l Q4m Q4n Q4o Q4s)
    simp only [true_and, and_true]
    rintro (i : Nat) ⟨hi, hall⟩
    refine bs_d (fun hlt => ?_) (fun hge => ⟨(), fun j hj => hall j (by omega)⟩)
    have hio : i < ps.length := by omega
    obtain ⟨⟨pv, pq, po, pb⟩, hat⟩ : ∃ y : Int × Int × ByteArray × List Sh.int.T, ps[i]? = some y := ⟨_, List.getElem?_eq_getElem hio⟩
    obtain ⟨lo, r, row, ha, _, hrd, hld⟩ := h1.elem hat
    obtain ⟨v1, rfl, s1⟩ := rd_proof.1 hrd
    dsimp only at hld s1
    obtain ⟨a2, c2, rfl⟩ := s1.isSlice
    have okp := ok.2 (pv, pq, po, pb) (List.mem_of_getElem? hat)
    refine ⟨lo, r, ha, Int.natCast_nonneg _, hlt, _, _, _, _, _, _, hld, _, _, isProof_spec h pv pq po pb a2 c2 s1 okp.2.2.2, bs_nb (fun e => ⟨rfl, i, hio, fun H => of_trn e (H.out hat).1.1⟩) (fun e1 => bs_d (fun hpos => ?_) (fun hpos => ?_))⟩
    · rw [wrap_pred (i := i) (by omega) (by omega)]
      obtain ⟨⟨yv, yq, yr⟩, hat2⟩ : ∃ y : Int × Int × ByteArray × List Sh.int.T, ps[i - 1]? = some y := ⟨_, List.getElem?_eq_getElem (by omega)⟩
      obtain ⟨lo', r', row', ha', _, hrd', hld'⟩ := h1.elem hat2
      obtain ⟨v2, rfl, _⟩ := rd_proof.1 hrd'
      dsimp only at hld'
      refine ⟨lo', r', ha', Int.natCast_nonneg _, by omega, _, ld_cells (k := 1) (m := 1) hld' (by simp), bs_d (fun e => ⟨rfl, i, hio, fun H => ?_⟩) (fun e3 => bs_d (fun e => ⟨rfl, i, hio, fun H => ?_⟩) (fun e2 => ?_))⟩
      · have h2 : yq < pq := (H.out hat).2 (yv, yq, yr) (by omega) hat2
        omega
      · have h2 : pv < v := (H.out hat).1.2
        omega
      · exact ⟨i + 1, by rw [wrap_i64 (by omega)]; rfl, rfl, ⟨by omega, upto_step hall (.mk1 hat ⟨of_tr e1, by show pv < v; omega⟩ hat2 (by show yq < pq; omega))⟩, by omega, fun _ h => h, fun _ _ h => h⟩
    · refine bs_d (fun e => ⟨rfl, i, hio, fun H => ?_⟩) (fun e2 => ?_)
      · have h2 : pv < v := (H.out hat).1.2
        omega
      · exact ⟨i + 1, by rw [wrap_i64 (by omega)]; rfl, rfl, ⟨by omega, upto_step hall (.mk0 hat ⟨of_tr e1, by show pv < v; omega⟩ (by omega))⟩, by omega, fun _ h => h, fun _ _ h => h⟩
  (refine vc_mp (by kernel_rfl : (∃ (i : Nat), Q49 (Q4d a ps c = Q4d a ps c) (Q4s ps = Q4s ps) (Q4r i) (Q3v (Q4f f v a ps c f v a ps c) (h = h) (Q3v (Q4c i ps (∀ (j : Nat), j < i → Q40 (fun (p : Sh.T proofSh) => Q42 p p p p p v) ps j)) (∀ (j : Unit), (∀ (j : Nat), Q41 j ps (fun (p : Sh.T proofSh) => Q42 p p p p p v) ps j) → (∃ (x : Bool) (h' : AHeap), Q4l 86 [Q4e f] h x h' ∧ bs x (∃ (x : Bool) (h'_1 : AHeap), Q3v (Q4l 87 [Q4e v, Q4e Q4g] h' x h'_1) (Q4q (Value.bool x) f v ps) (h'_1 = h)) (Q4q Q45 f v ps ∧ h' = h))) (∀ (v_1 : Value) (h_1 : AHeap), Q46 v_1 h_1 h (∃ (j : Nat), Q4a j ps (fun (p : Sh.T proofSh) => Q42 p p p p p v) ps j) → Q4q v_1 f v ps ∧ h_1 = h)))) = _) ?_; delta Q3v Q40 Q41 Q42 Q43 Q45 Q46 Q48 Q49 Q4a Q4c Q4d Q4e Q4f Q4g Q4l Q4p Q4q Q4r Q4s)
  refine ⟨(0 : Nat), rfl, rfl, rfl, rfl, rfl, rfl, ⟨Nat.zero_le _, fun j hj => absurd hj (Nat.not_lt_zero _)⟩, fun _ hall => ?_, fun v h1 ⟨e1, e2, j, hj, hn⟩ => ⟨e1.trans (congrArg _ (tr_false fun H => hn (H.2.2 j hj))), e2⟩⟩
  refine ⟨_, _, isReplica_spec _ _, bs_b (fun e1 => ⟨_, _, isView_spec _ _ _, congrArg _ (tr_congr ⟨fun H => ⟨inT e1, H, hall⟩, fun H => H.2.1⟩), rfl⟩) (fun e => ⟨congrArg _ (tr_false fun H => inF e H.1), rfl⟩)⟩
abbrev ChgsAt (v : Int) (cs : List changeSh.T) (i : Nat) : Prop := AscAt (fun c : changeSh.T => c.1) (fun c : changeSh.T => ChgOk c.1 c.2.1 c.2.2 ∧ (show Int from c.2.1) = v) cs i
def csL (v : Int) (cs : List changeSh.T) (h : AHeap) (hd : Nat → List (Nat × Value)) (S : List (List Value)) (po : List (Nat × Value)) : LSpec where
  ι := Nat
  κ := Unit
  I := fun i => i ≤ cs.length ∧ ∀ j, j < i → ChgsAt v cs j
  μ := fun i => cs.length - i
  head := fun i => ⟨hd i, S, h⟩
  post := fun _ => ⟨po, S, h⟩
  R := fun _ _ => ∀ j, j < cs.length → ChgsAt v cs j
  ret := fun _ r h' => r = .bool false ∧ h' = h ∧ ∃ j, j < cs.length ∧ ¬ ChgsAt v cs j
def Q4t (a : Sh.T changeSh → Prop) (b : List (Sh.T changeSh)) (c : Nat) := AscAt (fun (c : Sh.T changeSh) => Prod.fst c) a b c
def Q4u (a : Nat) (b : List (Sh.T changeSh)) (c : Sh.T changeSh → Prop) (d : List (Sh.T changeSh)) (e : Nat) := a < List.length b → Q4t c d e
def Q4v (a : Int × Sh.T (Sh.pair Sh.int (Sh.sl proofSh))) (b : Sh.T Sh.int × Int × Sh.T (Sh.sl proofSh)) (c : Sh.T Sh.int × Sh.T Sh.int × List (Sh.T proofSh)) (d : Sh.T Sh.int × Sh.T Sh.int × Sh.T (Sh.sl proofSh)) (e : Sh.T Sh.int) := ChgOk (Prod.fst a) (Prod.fst (Prod.snd b)) (Prod.snd (Prod.snd c)) ∧ Prod.fst (Prod.snd d) = e
def Q4w (a : Option Addr) (b : List (Sh.T changeSh)) (c : Nat) := Value.slice a (List.length b) c
def Q4x (a : List (Sh.T changeSh)) := (↑(List.length a) : Int)
def Q4y (a : Option Addr) (b c : Nat) (d e : Int) (f : List (Sh.T changeSh)) (g : Prop) := Q3v (a = some (Addr.mk b c (some 3))) (Q43 ≤ d) (e < Q4x f ∧ g)
def Q4z (a : Nat) (b : List (Sh.T changeSh)) (c : Sh.T changeSh → Prop) (d : List (Sh.T changeSh)) (e : Nat) := a < List.length b ∧ Not (Q4t c d e)
def Q50 (a : List (Sh.T changeSh)) (b : Nat) := List.length a - b
def Q51 (a : Nat) (b : List (Sh.T changeSh)) (c : Prop) := a ≤ List.length b ∧ c
def Q52 (a b : Int) := Q4e a = Q4e b
def Q53 (a : AHeap) (b c : Nat) (d e : Int) := Q4o a b c d 1 = some [Q4e e]
def Q54 (a b : Int) (c : Option Addr) (d e : Nat) := [Q4e a, Q4e b, Value.slice c d e]
theorem changes_spec (h : AHeap) (v : Int) (cs : List changeSh.T) (a : Option Addr) (c : Nat) (h1 : Sl h changeSh cs (.slice a cs.length c)) (ok : (Sh.sl changeSh).ok cs) :
    ACall Tryz.prog 119 [.slice a cs.length c, .int .i64 v] h (.bool (tr (ChgsOk v cs ∧ 3 ≤ cs.length))) h := by
  have n1 : cs.length ≤ 9223372036854775807 := ok.1
  refine acall_out (acall_vc (fun _ => false) (fun r => match r with | 4 => [(0, 0, []), (1, 0, []), (2, 0, []), (3, 1, []), (4, 3, []), (5, 0, []), (6, 0, []), (7, 0, []), (8, 0, []), (9, 0, []), (10, 0, []), (12, 0, []), (11, 1, []), (13, 0, []), (14, 0, []), (15, 0, []), (16, 0, []), (17, 0, []), (18, 0, []), (19, 0, []), (20, 0, []), (21, 0, []), (22, 0, []), (23, 0, []), (25, 0, []), (26, 0, []), (27, 0, []), (28, 0, []), (24, 1, []), (29, 1, []), (30, 0, []), (31, 0, []), (32, 0, [])] | _ => []) (fun _ => csL v cs h (fun i => [(0, .slice a cs.length c), (1, .int .i64 v), (5, .int .i64 i)]) [] [(0, .slice a cs.length c)]) mixed Tryz.func119 rfl rfl rfl (Nat.le_of_ble_eq_true rfl) ?_ ?_)
  · (refine vc_mp (by kernel_rfl : (Q3v True (Q3w (∀ (i : Nat), Q51 i cs (∀ (j : Nat), j < i → Q4t (fun (c : Sh.T changeSh) => Q4v c c c c v) cs j) → bs (decide ((↑i : Int) < Q4x cs)) (∃ (l r : Nat), Q4y a l r (↑i : Int) (↑i : Int) cs (∃ (x x_1 : Int) (a_2 : Option Addr) (n c_1 : Nat), Q4o h l r (↑i : Int) 3 = some (Q54 x x_1 a_2 n c_1) ∧ (∃ (x_2 : Bool) (h' : AHeap), Q4l 118 [Q4m (Q54 x x_1 a_2 n c_1)] h x_2 h' ∧ Q47 (not x_2) h' h (∃ (j : Nat), Q4z j cs (fun (c : Sh.T changeSh) => Q4v c c c c v) cs j) (∃ (l r : Nat), Q4y a l r (↑i : Int) (↑i : Int) cs (∃ (x : Int), Q4i h' l r (↑i : Int) x ∧ Q47 (not (decide (x = v))) h' h (∃ (j : Nat), Q4z j cs (fun (c : Sh.T changeSh) => Q4v c c c c v) cs j) (bs (decide ((↑i : Int) > Q43)) (∃ (l r : Nat), Q4y a l r (Q4j i) (Q4j i) cs (∃ (l_1 r_1 : Nat), Q4y a l_1 r_1 (↑i : Int) (↑i : Int) cs (∃ (x : Int), Q53 h' l r (Q4j i) x ∧ (∃ (x_3 : Int), Q53 h' l_1 r_1 (↑i : Int) x_3 ∧ Q47 (decide (x ≥ x_3)) h' h (∃ (j : Nat), Q4z j cs (fun (c : Sh.T changeSh) => Q4v c c c c v) cs j) (∃ (j : Nat), Q3v (Q4w a cs c = Q4w a cs c) (Q52 v v) (Q3v (Q4h i j) (h = h') (Q3v (Q51 j cs (∀ (j_1 : Nat), j_1 < j → Q4t (fun (c : Sh.T changeSh) => Q4v c c c c v) cs j_1)) (Q50 cs j < Q50 cs i) ((∀ (k : Unit), (∀ (j : Nat), Q4u j cs (fun (c : Sh.T changeSh) => Q4v c c c c v) cs j) → (∀ (j : Nat), Q4u j cs (fun (c : Sh.T changeSh) => Q4v c c c c v) cs j)) ∧ (∀ (v_1 : Value) (h_1 : AHeap), Q46 v_1 h_1 h (∃ (j : Nat), Q4z j cs (fun (c : Sh.T changeSh) => Q4v c c c c v) cs j) → Q46 v_1 h_1 h (∃ (j : Nat), Q4z j cs (fun (c : Sh.T changeSh) => Q4v c c c c v) cs j)))))))))) (∃ (j : Nat), Q3v (Q4w a cs c = Q4w a cs c) (Q52 v v) (Q3v (Q4h i j) (h = h') (Q3v (Q51 j cs (∀ (j_1 : Nat), j_1 < j → Q4t (fun (c : Sh.T changeSh) => Q4v c c c c v) cs j_1)) (Q50 cs j < Q50 cs i) ((∀ (k : Unit), (∀ (j : Nat), Q4u j cs (fun (c : Sh.T changeSh) => Q4v c c c c v) cs j) → (∀ (j : Nat), Q4u j cs (fun (c : Sh.T changeSh) => Q4v c c c c v) cs j)) ∧ (∀ (v_1 : Value) (h_1 : AHeap), Q46 v_1 h_1 h (∃ (j : Nat), Q4z j cs (fun (c : Sh.T changeSh) => Q4v c c c c v) cs j) → Q46 v_1 h_1 h (∃ (j : Nat), Q4z j cs (fun (c : Sh.T changeSh) => Q4v c c c c v) cs j)))))))))))) (∃ (j : Unit), Q3v (Q4w a cs c = Q4w a cs c) (h = h) (∀ (j : Nat), Q4u j cs (fun (c : Sh.T changeSh) => Q4v c c c c v) cs j))) (Q3z True) (Q3z Q3x) True) (True ∧ True)) = _) ?_; delta Q3v Q3w Q3x Q3z Q43 Q45 Q46 Q47 Q4e Q4g Q4h Q4i Q4j Q4l Q4m Q4o Q4t Q4u Q4v Q4w Q4x Q4y Q4z Q50 Q51 Q52 Q53 Q54)
    simp only [true_and, and_true]
    rintro (i : Nat) ⟨hi, hall⟩
    refine bs_d (fun hlt => ?_) (fun hge => ⟨(), fun j hj => hall j (by omega)⟩)
    have hio : i < cs.length := by omega
    obtain ⟨⟨cf, cv, cp⟩, hat⟩ : ∃ y : Int × Int × List proofSh.T, cs[i]? = some y := ⟨_, List.getElem?_eq_getElem hio⟩
    obtain ⟨lo, r, row, ha, _, hrd, hld⟩ := h1.elem hat
    obtain ⟨v1, rfl, s1⟩ := rd_change.1 hrd
    dsimp only at hld s1
    obtain ⟨a2, c2, rfl⟩ := s1.isSlice
    have okp := ok.2 (cf, cv, cp) (List.mem_of_getElem? hat)
    refine ⟨lo, r, ha, Int.natCast_nonneg _, hlt, _, _, _, _, _, hld, _, _, changeRight_spec h cf cv cp a2 c2 s1 okp.2.2, bs_nb (fun e => ⟨rfl, i, hio, fun H => of_trn e (H.out hat).1.1⟩) (fun e1 => ?_)⟩
    refine ⟨lo, r, ha, Int.natCast_nonneg _, hlt, _, ld_cells (k := 1) (m := 1) hld (by simp), bs_dn (fun e => ⟨rfl, i, hio, fun H => e (H.out hat).1.2⟩) (fun e2 => bs_d (fun hpos => ?_) (fun hpos => ?_))⟩
    · rw [wrap_pred (i := i) (by omega) (by omega)]
      obtain ⟨⟨yf, yr⟩, hat2⟩ : ∃ y : Int × Int × List proofSh.T, cs[i - 1]? = some y := ⟨_, List.getElem?_eq_getElem (by omega)⟩
      obtain ⟨lo', r', row', ha', _, hrd', hld'⟩ := h1.elem hat2
      obtain ⟨v2, rfl, _⟩ := rd_change.1 hrd'
      dsimp only at hld'
      refine ⟨lo', r', ha', Int.natCast_nonneg _, by omega, lo, r, ha, Int.natCast_nonneg _, hlt, _, ld_cells (k := 0) (m := 1) hld' (by simp), _, ld_cells (k := 0) (m := 1) hld (by simp), bs_d (fun e => ⟨rfl, i, hio, fun H => ?_⟩) (fun e3 => ?_)⟩
      · have h2 : yf < cf := (H.out hat).2 (yf, yr) (by omega) hat2
        omega
      · exact ⟨i + 1, by rw [wrap_i64 (by omega)]; rfl, rfl, ⟨by omega, upto_step hall (.mk1 hat ⟨of_tr e1, e2⟩ hat2 (by show yf < cf; omega))⟩, by omega, fun _ h => h, fun _ _ h => h⟩
    · exact ⟨i + 1, by rw [wrap_i64 (by omega)]; rfl, rfl, ⟨by omega, upto_step hall (.mk0 hat ⟨of_tr e1, e2⟩ (by omega))⟩, by omega, fun _ h => h, fun _ _ h => h⟩
  (refine vc_mp (by kernel_rfl : (∃ (i : Nat), Q3v (Q4w a cs c = Q4w a cs c) (Q52 v v) (Q3v (Q4r i) (h = h) (Q3v (Q51 i cs (∀ (j : Nat), j < i → Q4t (fun (c : Sh.T changeSh) => Q4v c c c c v) cs j)) (∀ (j : Unit), (∀ (j : Nat), Q4u j cs (fun (c : Sh.T changeSh) => Q4v c c c c v) cs j) → Value.bool (decide (Q4x cs ≥ 3)) = Q4p (ChgsOk v cs ∧ 3 ≤ List.length cs) ∧ h = h) (∀ (v_1 : Value) (h_1 : AHeap), Q46 v_1 h_1 h (∃ (j : Nat), Q4z j cs (fun (c : Sh.T changeSh) => Q4v c c c c v) cs j) → v_1 = Q4p (ChgsOk v cs ∧ 3 ≤ List.length cs) ∧ h_1 = h)))) = _) ?_; delta Q3v Q43 Q45 Q46 Q4e Q4p Q4r Q4t Q4u Q4v Q4w Q4x Q4z Q51 Q52)
  refine ⟨(0 : Nat), rfl, rfl, rfl, rfl, ⟨Nat.zero_le _, fun j hj => absurd hj (Nat.not_lt_zero _)⟩, fun _ hall => ⟨congrArg _ ?_, rfl⟩, fun v h1 ⟨e1, e2, j, hj, hn⟩ => ⟨e1.trans (congrArg _ (tr_false fun H => hn (H.1 j hj))), e2⟩⟩
  rw [tr_dec]
  exact tr_congr ⟨fun H => ⟨hall, by omega⟩, fun H => by have := H.2; omega⟩
def Q55 (a : Bool) (b : Prop) (c d e f : Int) (g : ByteArray) (h : List (Sh.T changeSh)) (i j : AHeap) := bs a b (Q45 = Q4p (SayOk c d e f g h) ∧ i = j)
def Q56 (a : Bool) (b c d e : Int) (f : ByteArray) (g : List (Sh.T changeSh)) := Value.bool a = Q4p (SayOk b c d e f g)
def Q57 := ByteArray.mk (Array.mk List.nil)
def Q58 (a : Int) (b : AHeap) (c : Int) (d : AHeap) := ACall Tryz.prog 33 [Q4e a] b (Q4e c) d
def Q59 (a : FuncId) (b : List Value) (c : AHeap) (d : Bool) (e : AHeap) (f : Bool) (g : Prop) (h i j k : Int) (l : ByteArray) (m : List (Sh.T changeSh)) (n o : AHeap) := Q4l a b c d e ∧ Q55 f g h i j k l m n o
def Q5a (a : Bool) (b c d e : Int) (f : ByteArray) (g : List (Sh.T changeSh)) (h i : AHeap) (j : Prop) := bs (not a) (Q56 true b c d e f g ∧ h = i) j
theorem sayRight_spec (h : AHeap) (k f v q : Int) (op : ByteArray) (cs : List changeSh.T) (a : Option Addr) (c : Nat) (h1 : Sl h changeSh cs (.slice a cs.length c)) (ok : (Sh.sl changeSh).ok cs) :
    ACall Tryz.prog 61 [.agg #[.int .i64 k, .int .i64 f, .int .i64 v, .int .i64 q, .string op, .slice a cs.length c]] h (.bool (tr (SayOk k f v q op cs))) h := by
  have n1 : cs.length ≤ 9223372036854775807 := ok.1
  refine acall_out (acall_vc (fun _ => false) (fun r => match r with | 7 => [(0, 0, []), (1, 1, []), (2, 3, []), (3, 0, []), (4, 0, []), (5, 1, []), (6, 3, []), (7, 0, []), (8, 0, []), (9, 0, []), (10, 1, []), (11, 0, []), (12, 0, []), (13, 0, []), (14, 0, []), (15, 0, []), (16, 1, []), (17, 0, []), (18, 0, []), (19, 0, []), (21, 0, []), (20, 1, []), (22, 1, []), (23, 3, [20]), (24, 0, []), (25, 0, []), (26, 0, []), (27, 0, [])] | 9 => [(0, 0, []), (1, 1, []), (2, 0, []), (3, 0, []), (4, 0, []), (5, 1, []), (6, 0, []), (7, 0, []), (8, 0, []), (9, 0, []), (10, 1, []), (11, 0, []), (12, 0, []), (13, 0, []), (14, 0, []), (15, 1, []), (16, 0, []), (17, 0, []), (18, 0, []), (19, 0, []), (20, 0, []), (21, 1, []), (22, 0, []), (23, 1, []), (24, 3, []), (25, 0, []), (26, 0, []), (27, 0, []), (32, 0, []), (28, 1, []), (29, 0, []), (30, 0, []), (31, 1, []), (33, 1, []), (34, 0, []), (35, 0, []), (36, 0, []), (37, 0, []), (42, 0, []), (38, 1, []), (39, 0, []), (40, 0, []), (41, 1, []), (43, 1, []), (44, 0, []), (45, 0, []), (46, 0, [])] | 11 => [(0, 0, []), (1, 1, []), (2, 0, []), (3, 0, []), (4, 0, []), (6, 0, []), (5, 1, []), (7, 1, []), (8, 3, [5]), (9, 0, []), (10, 0, []), (11, 0, []), (12, 0, []), (13, 1, []), (14, 0, []), (15, 0, []), (16, 0, []), (17, 0, []), (18, 1, []), (19, 0, []), (20, 0, []), (21, 0, []), (22, 0, []), (24, 0, []), (23, 1, []), (25, 1, []), (26, 3, []), (27, 0, []), (28, 0, [])] | _ => []) (fun _ => .none) mixed Tryz.func61 rfl rfl rfl (Nat.le_of_ble_eq_true rfl) (by (refine vc_mp (by kernel_rfl : (Q3w (Q3z Q3x) (Q3w (Q3w True True True True) Q3x True (Q3y Q3x)) True True) = _) ?_; delta Q3v Q3w Q3x Q3y Q3z); simp only [and_self]) ?_)
  (refine vc_mp (by kernel_rfl : (∃ (x : Bool) (h' : AHeap), Q4l 76 [Q4e f] h x h' ∧ bs (not x) (Q45 = Q4p (SayOk k f v q op cs) ∧ h' = h) (∃ (x : Bool) (h'_1 : AHeap), Q4l 77 [Q4e v] h' x h'_1 ∧ bs (not x) (Q45 = Q4p (SayOk k f v q op cs) ∧ h'_1 = h) (bs (decide (k = Q4g)) (∃ (x : Bool) (h' : AHeap), Q59 117 [Q4e q] h'_1 x h' x (∃ (x : Bool) (h'_2 : AHeap), Q59 50 [Value.string op] h' x h'_2 x (Q55 (decide (Q4x cs = Q43)) (Q5a (decide (k = Q4g)) k f v q op cs h'_2 h (∃ (x : Int) (h' : AHeap), Q3v (Q58 v h'_2 x h') (Q52 f f) (Q56 (decide (f = x)) k f v q op cs ∧ h' = h))) k f v q op cs h'_2 h) k f v q op cs h'_2 h) k f v q op cs h' h) (bs (decide (k = 2)) (∃ (x : Bool) (h' : AHeap), Q59 117 [Q4e q] h'_1 x h' x (∃ (x : Bool) (h'_2 : AHeap), Q59 50 [Value.string op] h' x h'_2 x (Q55 (decide (Q4x cs = Q43)) (Q5a (decide (k = Q4g)) k f v q op cs h'_2 h (∃ (x : Int) (h' : AHeap), Q3v (Q58 v h'_2 x h') (Q52 f f) (Q56 (decide (f = x)) k f v q op cs ∧ h' = h))) k f v q op cs h'_2 h) k f v q op cs h'_2 h) k f v q op cs h' h) (bs (decide (k = 3)) (∃ (x : Bool) (h' : AHeap), Q59 117 [Q4e q] h'_1 x h' x (∃ (x : Bool) (h'_2 : AHeap), Q59 50 [Value.string op] h' x h'_2 x (Q55 (decide (Q4x cs = Q43)) (Q5a (decide (k = Q4g)) k f v q op cs h'_2 h (∃ (x : Int) (h' : AHeap), Q3v (Q58 v h'_2 x h') (Q52 f f) (Q56 (decide (f = x)) k f v q op cs ∧ h' = h))) k f v q op cs h'_2 h) k f v q op cs h'_2 h) k f v q op cs h' h) (bs (decide (k = 4)) (Q55 (decide (v ≥ Q4g)) (Q55 (decide (q = Q43)) (Q55 (decide (op = Q57)) (Q55 (decide (Q4x cs = Q4g)) (∃ (l r : Nat), Q4y a l r Q43 Q43 cs (∃ (x x_1 : Int) (a_1 : Option Addr) (n c : Nat), Q4o h'_1 l r Q43 3 = some (Q54 x x_1 a_1 n c) ∧ (∃ (x_2 : Bool) (h' : AHeap), Q59 118 [Q4m (Q54 x x_1 a_1 n c)] h'_1 x_2 h' x_2 (∃ (l r : Nat), Q4y a l r Q43 Q43 cs (∃ (x : Int), Q53 h' l r Q43 x ∧ Q55 (decide (x = f)) (∃ (l r : Nat), Q4y a l r Q43 Q43 cs (∃ (x : Int), Q3v (Q4i h' l r Q43 x) (Q56 (decide (x = v)) k f v q op cs) (h' = h))) k f v q op cs h' h)) k f v q op cs h' h))) k f v q op cs h'_1 h) k f v q op cs h'_1 h) k f v q op cs h'_1 h) k f v q op cs h'_1 h) (Q55 (decide (k = 5)) (Q55 (decide (v ≥ Q4g)) (∃ (x : Int) (h' : AHeap), Q3v (Q58 v h'_1 x h') (Q52 f f) (Q55 (decide (f = x)) (Q55 (decide (q = Q43)) (Q55 (decide (op = Q57)) (∃ (x : Bool) (h'_2 : AHeap), Q3v (Q4l 119 [Q4w a cs c, Q4e v] h' x h'_2) (Q56 x k f v q op cs) (h'_2 = h)) k f v q op cs h' h) k f v q op cs h' h) k f v q op cs h' h)) k f v q op cs h'_1 h) k f v q op cs h'_1 h))))))) = _) ?_; delta Q3v Q43 Q45 Q4e Q4g Q4i Q4l Q4m Q4o Q4p Q4w Q4x Q4y Q52 Q53 Q54 Q55 Q56 Q57 Q58 Q59 Q5a)
  refine ⟨_, _, l09Who_spec _ _, bs_nb (fun e => ⟨congrArg _ (tr_false fun H => inF e H.1), rfl⟩) (fun e1 => ⟨_, _, l10View_spec _ _, bs_nb (fun e => ⟨congrArg _ (tr_false fun H => of_trn e H.2.1), rfl⟩) (fun e2 => ?_)⟩)⟩
  refine bs_d (fun hk => ?_) (fun hk1 => bs_d (fun hk => ?_) (fun hk2 => bs_d (fun hk => ?_) (fun hk3 => ?_)))
  iterate 3
    have hk' : InR 1 3 k := by unfold InR; omega
    refine ⟨_, _, l10Seq_spec _ _, bs_b (fun e3 => ?_) (fun e => ⟨congrArg _ (tr_false fun H => by have e' := of_trn e; unfold SayOk InR at *; omega), rfl⟩)⟩
    refine ⟨_, _, opRight_spec _ _, bs_b (fun e4 => ?_) (fun e => ⟨congrArg _ (tr_false fun H => by have e' := of_trn e; unfold SayOk InR at *; omega), rfl⟩)⟩
    refine bs_d (fun e5 => ?_) (fun e5 => ⟨congrArg _ (tr_false fun H => by unfold SayOk InR at *; omega), rfl⟩)
    have hcs : cs = [] := List.eq_nil_of_length_eq_zero (by omega)
    have hcc : ChgsOk v cs := by rw [hcs]; exact Asc.nil
    have hv0 : 0 ≤ v := (of_tr e2).1
    refine bs_dn (fun e6 => ⟨congrArg _ (tr_true ⟨inT e1, of_tr e2, hcc, .inl ⟨hk', of_tr e3, of_tr e4, by omega, fun h => absurd h e6⟩⟩), rfl⟩) (fun e6 => ⟨_, _, specLeader _ _ hv0, rfl, congrArg _ ?_, rfl⟩)
    rw [tr_dec]
    exact tr_congr ⟨fun h => ⟨inT e1, of_tr e2, hcc, .inl ⟨hk', of_tr e3, of_tr e4, by omega, fun _ => h⟩⟩, fun H => by unfold SayOk InR at *; omega⟩
  have hv0 : 0 ≤ v := (of_tr e2).1
  refine bs_d (fun hk => ?_) (fun hk4 => bs_d (fun hk => ?_) (fun hk5 => ⟨congrArg _ (tr_false fun H => by unfold SayOk InR at *; omega), rfl⟩))
  · refine bs_d (fun e3 => bs_d (fun e4 => bs_d (fun e5 => bs_d (fun e6 => ?_) (fun e6 => ⟨congrArg _ (tr_false fun H => by unfold SayOk InR at *; omega), rfl⟩)) (fun e5 => ?_)) (fun e4 => ⟨congrArg _ (tr_false fun H => by unfold SayOk InR at *; omega), rfl⟩)) (fun e3 => ⟨congrArg _ (tr_false fun H => by unfold SayOk InR at *; omega), rfl⟩)
    · obtain ⟨⟨cf, cv, cp⟩, hat⟩ : ∃ y : Int × Int × List proofSh.T, cs[0]? = some y := ⟨_, List.getElem?_eq_getElem (by omega)⟩
      obtain ⟨lo, r, row, ha, _, hrd, hld⟩ := h1.elem hat
      obtain ⟨v1, rfl, s1⟩ := rd_change.1 hrd
      dsimp only at hld s1
      obtain ⟨a2, c2, rfl⟩ := s1.isSlice
      have okp := ok.2 (cf, cv, cp) (List.mem_of_getElem? hat)
      have hcs : cs = [(cf, cv, cp)] := by
        match cs, hat, e6 with
        | [x], hat, _ => cases hat; rfl
        | x :: y :: zs, _, e6 => exfalso; simp at e6; omega
      have hch : ChgsOk v cs ↔ ChgOk cf cv cp ∧ cv = v := by rw [hcs]; exact Asc.one
      have h5 := ba_nil.1 e5
      have out : SayOk k f v q op cs → ChgOk cf cv cp ∧ cv = v ∧ cf = f := fun H => by
        obtain ⟨q1, q2⟩ := hch.1 H.2.2.1
        refine ⟨q1, q2, ?_⟩
        rcases H.2.2.2 with H | H | H
        · unfold InR at *; omega
        · exact H.2.2.2.2.2 _ hat
        · omega
      refine ⟨lo, r, ha, Int.le_refl _, by omega, _, _, _, _, _, hld, _, _, changeRight_spec h cf cv cp a2 c2 s1 okp.2.2, bs_b (fun e7 => ?_) (fun e => ⟨congrArg _ (tr_false fun H => of_trn e (out H).1), rfl⟩)⟩
      refine ⟨lo, r, ha, Int.le_refl _, by omega, _, ld_cells (k := 0) (m := 1) hld (by simp), bs_d (fun e8 => ?_) (fun e => ⟨congrArg _ (tr_false fun H => e (out H).2.2), rfl⟩)⟩
      refine ⟨lo, r, ha, Int.le_refl _, by omega, _, ld_cells (k := 1) (m := 1) hld (by simp), congrArg _ ?_, rfl⟩
      rw [tr_dec]
      exact tr_congr ⟨fun H => ⟨inT e1, of_tr e2, hch.2 ⟨of_tr e7, H⟩, .inr (.inl ⟨hk, by omega, e4, h5, by omega, fun c hc => by rw [hat] at hc; cases hc; exact e8⟩)⟩, fun H => (out H).2.1⟩
    · have := mt ba_nil.2 e5
      exact ⟨congrArg _ (tr_false fun H => by unfold SayOk InR at *; omega), rfl⟩
  · refine bs_d (fun e3 => ?_) (fun e3 => ⟨congrArg _ (tr_false fun H => by unfold SayOk InR at *; omega), rfl⟩)
    refine ⟨_, _, specLeader _ _ hv0, rfl, bs_d (fun e4 => bs_d (fun e5 => bs_d (fun e6 => ?_) (fun e6 => ?_)) (fun e5 => ⟨congrArg _ (tr_false fun H => by unfold SayOk InR at *; omega), rfl⟩)) (fun e4 => ⟨congrArg _ (tr_false fun H => by unfold SayOk InR at *; omega), rfl⟩)⟩
    · have h6 := ba_nil.1 e6
      refine ⟨_, _, changes_spec _ v cs a c h1 ok, congrArg _ (tr_congr ⟨fun H => ⟨inT e1, of_tr e2, H.1, .inr (.inr ⟨hk, by omega, e4, e5, h6, H.2⟩)⟩, fun H => ⟨H.2.2.1, ?_⟩⟩), rfl⟩
      unfold SayOk InR at *; omega
    · have := mt ba_nil.2 e6
      exact ⟨congrArg _ (tr_false fun H => by unfold SayOk InR at *; omega), rfl⟩
theorem sizeChange_spec (h : AHeap) (a : Option Addr) (n c : Nat) : ACall Tryz.prog 124 [.slice a n c] h (.int .i64 n) h := by
  refine acall_out (acall_vc (fun _ => false) (fun _ => []) (fun _ => .none) mixed Tryz.func124 rfl rfl rfl (Nat.le_of_ble_eq_true rfl) (by (refine vc_mp (by kernel_rfl : (Q3z True) = _) ?_; delta Q3v Q3z); simp only [and_self]) ?_)
  (refine vc_mp (by kernel_rfl : (Q4e (↑n : Int) = Q4e (↑n : Int) ∧ h = h) = _) ?_; delta Q4e)
  exact ⟨rfl, rfl⟩
def Q5b (a b c d : Int) (e : ByteArray) (f : Option Addr) (g : List (Sh.T changeSh)) (h : Nat) := [Q4e a, Q4e b, Q4e c, Q4e d, Value.string e, Q4w f g h]
def Q5c (a : Int) (b : AHeap) (c : Int) (d : AHeap) := ACall Tryz.prog 96 [Q4e a] b (Q4e c) d
theorem isSay_spec (h : AHeap) (k f v q : Int) (op : ByteArray) (cs : List changeSh.T) (a : Option Addr) (c : Nat) (h1 : Sl h changeSh cs (.slice a cs.length c)) (ok : (Sh.sl changeSh).ok cs) :
    ACall Tryz.prog 68 [.agg #[.int .i64 k, .int .i64 f, .int .i64 v, .int .i64 q, .string op, .slice a cs.length c]] h (.bool (tr (SayOk k f v q op cs))) h := by
  have n1 : cs.length ≤ 9223372036854775807 := ok.1
  refine acall_out (acall_vc (fun _ => false) (fun r => match r with | 6 => [(0, 1, []), (1, 3, []), (2, 0, []), (3, 0, []), (4, 0, []), (6, 0, []), (5, 1, []), (7, 1, []), (8, 0, []), (9, 0, []), (10, 0, []), (11, 0, []), (12, 0, []), (13, 0, []), (14, 0, []), (16, 0, []), (17, 0, []), (21, 0, []), (15, 1, []), (18, 0, []), (19, 0, []), (20, 1, []), (22, 1, []), (23, 0, []), (24, 0, []), (25, 0, [])] | 13 => [(0, 0, []), (1, 1, []), (2, 3, []), (3, 0, []), (4, 0, []), (5, 1, []), (6, 3, []), (7, 0, []), (8, 0, []), (9, 0, []), (10, 1, []), (11, 3, []), (12, 0, []), (13, 0, []), (14, 0, []), (15, 1, []), (16, 0, []), (17, 0, []), (18, 0, []), (19, 0, []), (20, 0, []), (21, 1, []), (22, 0, []), (23, 0, []), (24, 0, []), (26, 0, []), (25, 1, []), (27, 1, []), (28, 3, [25]), (29, 0, []), (30, 0, []), (31, 0, []), (32, 0, [])] | 15 => [(0, 0, []), (1, 1, []), (2, 3, []), (3, 0, []), (4, 0, []), (5, 1, []), (6, 0, []), (7, 0, []), (8, 0, []), (9, 0, []), (10, 1, []), (11, 0, []), (12, 0, []), (13, 0, []), (14, 0, []), (15, 1, []), (16, 0, []), (17, 0, []), (18, 0, []), (19, 0, []), (20, 0, []), (25, 0, []), (21, 1, []), (22, 0, []), (23, 0, []), (24, 1, []), (26, 1, []), (27, 0, []), (28, 0, []), (29, 0, [])] | 17 => [(0, 0, []), (1, 1, []), (2, 3, []), (3, 0, []), (4, 0, []), (6, 0, []), (5, 1, []), (7, 1, []), (8, 3, [5]), (9, 0, []), (10, 0, []), (11, 0, []), (12, 0, []), (13, 1, []), (14, 0, []), (15, 0, []), (16, 0, []), (17, 0, []), (18, 1, []), (19, 0, []), (20, 0, []), (21, 0, []), (22, 0, []), (23, 1, []), (24, 3, []), (25, 3, []), (26, 0, []), (27, 0, [])] | _ => []) (fun _ => csL v cs h (fun i => [(1, .complex .f32 0 0), (10, .slice a cs.length c), (11, .int .i64 cs.length), (12, .int .i64 i)]) [[.int .i64 k, .int .i64 f, .int .i64 v, .int .i64 q, .string op, .slice a cs.length c]] [(1, .complex .f32 0 0)]) mixed Tryz.func68 rfl rfl rfl (Nat.le_of_ble_eq_true rfl) ?_ ?_)
  · (refine vc_mp (by kernel_rfl : (Q3w (Q3z Q3x) (Q3w (∀ (i : Nat), Q51 i cs (∀ (j : Nat), j < i → Q4t (fun (c : Sh.T changeSh) => Q4v c c c c v) cs j) → bs (decide ((↑i : Int) < Q4x cs)) (∃ (l r : Nat), Q4y a l r (↑i : Int) (↑i : Int) cs (∃ (x x_1 : Int) (a_2 : Option Addr) (n c_1 : Nat), Q4o h l r (↑i : Int) 3 = some (Q54 x x_1 a_2 n c_1) ∧ (∃ (x_2 : Bool) (h' : AHeap), Q4l 92 [Q4m (Q54 x x_1 a_2 n c_1)] h x_2 h' ∧ Q47 (not x_2) h' h (∃ (j : Nat), Q4z j cs (fun (c : Sh.T changeSh) => Q4v c c c c v) cs j) (Q47 (not (decide (x_1 = v))) h' h (∃ (j : Nat), Q4z j cs (fun (c : Sh.T changeSh) => Q4v c c c c v) cs j) (bs (decide ((↑i : Int) > Q43)) (∃ (l r : Nat), Q4y a l r (Q4j i) (Q4j i) cs (∃ (x_3 : Int), Q53 h' l r (Q4j i) x_3 ∧ Q47 (decide (x_3 ≥ x)) h' h (∃ (j : Nat), Q4z j cs (fun (c : Sh.T changeSh) => Q4v c c c c v) cs j) (∃ (j : Nat), Q49 (Q4w a cs c = Q4w a cs c) (Q52 (Q4x cs) (Q4x cs)) (Q4h i j) (Q3v (Q5b k f v q op a cs c = Q5b k f v q op a cs c) (h = h') (Q3v (Q51 j cs (∀ (j_1 : Nat), j_1 < j → Q4t (fun (c : Sh.T changeSh) => Q4v c c c c v) cs j_1)) (Q50 cs j < Q50 cs i) ((∀ (k : Unit), (∀ (j : Nat), Q4u j cs (fun (c : Sh.T changeSh) => Q4v c c c c v) cs j) → (∀ (j : Nat), Q4u j cs (fun (c : Sh.T changeSh) => Q4v c c c c v) cs j)) ∧ (∀ (v_1 : Value) (h_1 : AHeap), Q46 v_1 h_1 h (∃ (j : Nat), Q4z j cs (fun (c : Sh.T changeSh) => Q4v c c c c v) cs j) → Q46 v_1 h_1 h (∃ (j : Nat), Q4z j cs (fun (c : Sh.T changeSh) => Q4v c c c c v) cs j)))))))) (∃ (j : Nat), Q49 (Q4w a cs c = Q4w a cs c) (Q52 (Q4x cs) (Q4x cs)) (Q4h i j) (Q3v (Q5b k f v q op a cs c = Q5b k f v q op a cs c) (h = h') (Q3v (Q51 j cs (∀ (j_1 : Nat), j_1 < j → Q4t (fun (c : Sh.T changeSh) => Q4v c c c c v) cs j_1)) (Q50 cs j < Q50 cs i) ((∀ (k : Unit), (∀ (j : Nat), Q4u j cs (fun (c : Sh.T changeSh) => Q4v c c c c v) cs j) → (∀ (j : Nat), Q4u j cs (fun (c : Sh.T changeSh) => Q4v c c c c v) cs j)) ∧ (∀ (v_1 : Value) (h_1 : AHeap), Q46 v_1 h_1 h (∃ (j : Nat), Q4z j cs (fun (c : Sh.T changeSh) => Q4v c c c c v) cs j) → Q46 v_1 h_1 h (∃ (j : Nat), Q4z j cs (fun (c : Sh.T changeSh) => Q4v c c c c v) cs j))))))))))) (∃ (j : Unit), Q3v (Q48 = Q48) (Q5b k f v q op a cs c = Q5b k f v q op a cs c) (h = h ∧ (∀ (j : Nat), Q4u j cs (fun (c : Sh.T changeSh) => Q4v c c c c v) cs j)))) True Q3x (Q3y True ∧ True)) (Q3w (Q3w True True True True) Q3x True (Q3y Q3x)) Q3x) = _) ?_; delta Q3v Q3w Q3x Q3y Q3z Q43 Q45 Q46 Q47 Q48 Q49 Q4e Q4g Q4h Q4j Q4l Q4m Q4o Q4t Q4u Q4v Q4w Q4x Q4y Q4z Q50 Q51 Q52 Q53 Q54 Q5b)
    simp only [true_and, and_true]
    rintro (i : Nat) ⟨hi, hall⟩
    refine bs_d (fun hlt => ?_) (fun hge => ⟨(), fun j hj => hall j (by omega)⟩)
    have hio : i < cs.length := by omega
    obtain ⟨⟨cf, cv, cp⟩, hat⟩ : ∃ y : Int × Int × List proofSh.T, cs[i]? = some y := ⟨_, List.getElem?_eq_getElem hio⟩
    obtain ⟨lo, r, row, ha, _, hrd, hld⟩ := h1.elem hat
    obtain ⟨v1, rfl, s1⟩ := rd_change.1 hrd
    dsimp only at hld s1
    obtain ⟨a2, c2, rfl⟩ := s1.isSlice
    have okp := ok.2 (cf, cv, cp) (List.mem_of_getElem? hat)
    refine ⟨lo, r, ha, Int.natCast_nonneg _, hlt, _, _, _, _, _, hld, _, _, isChange_spec h cf cv cp a2 c2 s1 okp.2.2, bs_nb (fun e => ⟨rfl, i, hio, fun H => of_trn e (H.out hat).1.1⟩) (fun e1 => ?_)⟩
    refine bs_dn (fun e => ⟨rfl, i, hio, fun H => e (H.out hat).1.2⟩) (fun e2 => bs_d (fun hpos => ?_) (fun hpos => ?_))
    · rw [wrap_pred (i := i) (by omega) (by omega)]
      obtain ⟨⟨yf, yr⟩, hat2⟩ : ∃ y : Int × Int × List proofSh.T, cs[i - 1]? = some y := ⟨_, List.getElem?_eq_getElem (by omega)⟩
      obtain ⟨lo', r', row', ha', _, hrd', hld'⟩ := h1.elem hat2
      obtain ⟨v2, rfl, _⟩ := rd_change.1 hrd'
      dsimp only at hld'
      refine ⟨lo', r', ha', Int.natCast_nonneg _, by omega, _, ld_cells (k := 0) (m := 1) hld' (by simp), bs_d (fun e => ⟨rfl, i, hio, fun H => ?_⟩) (fun e3 => ?_)⟩
      · have h2 : yf < cf := (H.out hat).2 (yf, yr) (by omega) hat2
        omega
      · exact ⟨i + 1, by rw [wrap_i64 (by omega)]; rfl, rfl, ⟨by omega, upto_step hall (.mk1 hat ⟨of_tr e1, e2⟩ hat2 (by show yf < cf; omega))⟩, by omega, fun _ h => h, fun _ _ h => h⟩
    · exact ⟨i + 1, by rw [wrap_i64 (by omega)]; rfl, rfl, ⟨by omega, upto_step hall (.mk0 hat ⟨of_tr e1, e2⟩ (by omega))⟩, by omega, fun _ h => h, fun _ _ h => h⟩
  (refine vc_mp (by kernel_rfl : (∃ (x : Bool) (h' : AHeap), Q4l 86 [Q4e f] h x h' ∧ bs (not x) (Q45 = Q4p (SayOk k f v q op cs) ∧ h' = h) (∃ (i : Nat), Q49 (Q4w a cs c = Q4w a cs c) (Q52 (Q4x cs) (Q4x cs)) (Q4r i) (Q3v (Q5b k f v q op a cs c = Q5b k f v q op a cs c) (h = h') (Q3v (Q51 i cs (∀ (j : Nat), j < i → Q4t (fun (c : Sh.T changeSh) => Q4v c c c c v) cs j)) (∀ (j : Unit), (∀ (j : Nat), Q4u j cs (fun (c : Sh.T changeSh) => Q4v c c c c v) cs j) → bs (decide (k = Q4g)) (∃ (x : Bool) (h' : AHeap), Q59 87 [Q4e v, Q4e Q43] h x h' x (∃ (x : Bool) (h'_1 : AHeap), Q59 123 [Q4e q] h' x h'_1 x (∃ (x : Bool) (h' : AHeap), Q59 56 [Value.string op] h'_1 x h' x (Q55 (decide (Q4x cs = Q43)) (Q5a (decide (k = Q4g)) k f v q op cs h' h (∃ (x : Int) (h'_2 : AHeap), Q3v (Q5c v h' x h'_2) (Q52 f f) (Q56 (decide (f = x)) k f v q op cs ∧ h'_2 = h))) k f v q op cs h' h) k f v q op cs h' h) k f v q op cs h'_1 h) k f v q op cs h' h) (bs (decide (k = 2)) (∃ (x : Bool) (h' : AHeap), Q59 87 [Q4e v, Q4e Q43] h x h' x (∃ (x : Bool) (h'_1 : AHeap), Q59 123 [Q4e q] h' x h'_1 x (∃ (x : Bool) (h' : AHeap), Q59 56 [Value.string op] h'_1 x h' x (Q55 (decide (Q4x cs = Q43)) (Q5a (decide (k = Q4g)) k f v q op cs h' h (∃ (x : Int) (h'_2 : AHeap), Q3v (Q5c v h' x h'_2) (Q52 f f) (Q56 (decide (f = x)) k f v q op cs ∧ h'_2 = h))) k f v q op cs h' h) k f v q op cs h' h) k f v q op cs h'_1 h) k f v q op cs h' h) (bs (decide (k = 3)) (∃ (x : Bool) (h' : AHeap), Q59 87 [Q4e v, Q4e Q43] h x h' x (∃ (x : Bool) (h'_1 : AHeap), Q59 123 [Q4e q] h' x h'_1 x (∃ (x : Bool) (h' : AHeap), Q59 56 [Value.string op] h'_1 x h' x (Q55 (decide (Q4x cs = Q43)) (Q5a (decide (k = Q4g)) k f v q op cs h' h (∃ (x : Int) (h'_2 : AHeap), Q3v (Q5c v h' x h'_2) (Q52 f f) (Q56 (decide (f = x)) k f v q op cs ∧ h'_2 = h))) k f v q op cs h' h) k f v q op cs h' h) k f v q op cs h'_1 h) k f v q op cs h' h) (bs (decide (k = 4)) (∃ (x : Bool) (h' : AHeap), Q59 87 [Q4e v, Q4e Q4g] h x h' x (Q55 (decide (q = Q43)) (Q55 (decide (op = Q57)) (Q55 (decide (Q4x cs = Q4g)) (∃ (l r : Nat), Q4y a l r Q43 Q43 cs (∃ (x : Int), Q3v (Q53 h' l r Q43 x) (Q56 (decide (x = f)) k f v q op cs) (h' = h))) k f v q op cs h' h) k f v q op cs h' h) k f v q op cs h' h) k f v q op cs h' h) (Q55 (decide (k = 5)) (∃ (x : Bool) (h' : AHeap), Q59 87 [Q4e v, Q4e Q4g] h x h' x (∃ (x : Int) (h'_1 : AHeap), Q3v (Q5c v h' x h'_1) (Q52 f f) (Q55 (decide (f = x)) (Q55 (decide (q = Q43)) (Q55 (decide (op = Q57)) (∃ (x : Int) (h' : AHeap), ACall Tryz.prog 124 [Q4w a cs c] h'_1 (Q4e x) h' ∧ (∃ (x_1 : Bool) (h'_2 : AHeap), Q3v (Q4l 88 [Q4e x, Q4e 3, Q4e 4] h' x_1 h'_2) (Q56 x_1 k f v q op cs) (h'_2 = h))) k f v q op cs h'_1 h) k f v q op cs h'_1 h) k f v q op cs h'_1 h)) k f v q op cs h' h) k f v q op cs h h))))) (∀ (v_1 : Value) (h_1 : AHeap), Q46 v_1 h_1 h (∃ (j : Nat), Q4z j cs (fun (c : Sh.T changeSh) => Q4v c c c c v) cs j) → v_1 = Q4p (SayOk k f v q op cs) ∧ h_1 = h))))) = _) ?_; delta Q3v Q43 Q45 Q46 Q48 Q49 Q4e Q4g Q4l Q4o Q4p Q4r Q4t Q4u Q4v Q4w Q4x Q4y Q4z Q51 Q52 Q53 Q55 Q56 Q57 Q59 Q5a Q5b Q5c)
  refine ⟨_, _, isReplica_spec _ _, bs_nb (fun e => ⟨congrArg _ (tr_false fun H => inF e H.1), rfl⟩) (fun e1 => ?_)⟩
  refine ⟨(0 : Nat), rfl, rfl, rfl, rfl, rfl, rfl, ⟨Nat.zero_le _, fun j hj => absurd hj (Nat.not_lt_zero _)⟩, fun _ hcc => ?_, fun v h1 ⟨e1, e2, j, hj, hn⟩ => ⟨e1.trans (congrArg _ (tr_false fun H => hn (H.2.2.1 j hj))), e2⟩⟩
  refine bs_d (fun hk => ?_) (fun hk1 => bs_d (fun hk => ?_) (fun hk2 => bs_d (fun hk => ?_) (fun hk3 => ?_)))
  iterate 3
    have hk' : InR 1 3 k := by unfold InR; omega
    refine ⟨_, _, isView_spec _ _ _, bs_b (fun e2 => ?_) (fun e => ⟨congrArg _ (tr_false fun H => by have e' := of_trn e; unfold SayOk InR at *; omega), rfl⟩)⟩
    refine ⟨_, _, isSeq_spec _ _, bs_b (fun e3 => ?_) (fun e => ⟨congrArg _ (tr_false fun H => by have e' := of_trn e; unfold SayOk InR at *; omega), rfl⟩)⟩
    refine ⟨_, _, isOp_spec _ _, bs_b (fun e4 => ?_) (fun e => ⟨congrArg _ (tr_false fun H => by have e' := of_trn e; unfold SayOk InR at *; omega), rfl⟩)⟩
    refine bs_d (fun e5 => ?_) (fun e5 => ⟨congrArg _ (tr_false fun H => by unfold SayOk InR at *; omega), rfl⟩)
    have hcs : cs = [] := List.eq_nil_of_length_eq_zero (by omega)
    have hcc : ChgsOk v cs := by rw [hcs]; exact Asc.nil
    have hv0 : 0 ≤ v := (of_tr e2).1
    refine bs_dn (fun e6 => ⟨congrArg _ (tr_true ⟨inT e1, of_tr e2, hcc, .inl ⟨hk', of_tr e3, of_tr e4, by omega, fun h => absurd h e6⟩⟩), rfl⟩) (fun e6 => ⟨_, _, leader_spec _ _ hv0, rfl, congrArg _ ?_, rfl⟩)
    rw [tr_dec]
    exact tr_congr ⟨fun h => ⟨inT e1, of_tr e2, hcc, .inl ⟨hk', of_tr e3, of_tr e4, by omega, fun _ => h⟩⟩, fun H => by unfold SayOk InR at *; omega⟩
  refine bs_d (fun hk => ?_) (fun hk4 => bs_d (fun hk => ?_) (fun hk5 => ⟨congrArg _ (tr_false fun H => by unfold SayOk InR at *; omega), rfl⟩))
  · refine ⟨_, _, isView_spec _ _ _, bs_b (fun e2 => ?_) (fun e => ⟨congrArg _ (tr_false fun H => by have e' := of_trn e; unfold SayOk InR at *; omega), rfl⟩)⟩
    have e2' := of_tr e2
    refine bs_d (fun e4 => bs_d (fun e5 => bs_d (fun e6 => ?_) (fun e6 => ⟨congrArg _ (tr_false fun H => by unfold SayOk InR at *; omega), rfl⟩)) (fun e5 => ?_)) (fun e4 => ⟨congrArg _ (tr_false fun H => by unfold SayOk InR at *; omega), rfl⟩)
    · obtain ⟨⟨cf, cv, cp⟩, hat⟩ : ∃ y : Int × Int × List proofSh.T, cs[0]? = some y := ⟨_, List.getElem?_eq_getElem (by omega)⟩
      obtain ⟨lo, r, row, ha, _, hrd, hld⟩ := h1.elem hat
      obtain ⟨v1, rfl, s1⟩ := rd_change.1 hrd
      dsimp only at hld s1
      have h5 := ba_nil.1 e5
      refine ⟨lo, r, ha, Int.le_refl _, by omega, _, ld_cells (k := 0) (m := 1) hld (by simp), congrArg _ ?_, rfl⟩
      rw [tr_dec]
      refine tr_congr ⟨fun H => ⟨inT e1, ⟨by have := e2'.1; omega, e2'.2⟩, hcc, .inr (.inl ⟨hk, e2'.1, e4, h5, by omega, fun c hc => ?_⟩)⟩, fun H => ?_⟩
      · rw [hat] at hc; cases hc; exact H
      · rcases H.2.2.2 with H | H | H
        · unfold InR at *; omega
        · exact H.2.2.2.2.2 _ hat
        · omega
    · have := mt ba_nil.2 e5
      exact ⟨congrArg _ (tr_false fun H => by unfold SayOk InR at *; omega), rfl⟩
  · refine ⟨_, _, isView_spec _ _ _, bs_b (fun e2 => ?_) (fun e => ⟨congrArg _ (tr_false fun H => by have e' := of_trn e; unfold SayOk InR at *; omega), rfl⟩)⟩
    have e2' := of_tr e2
    have hl4 := ChgsOk.len hcc
    refine ⟨_, _, leader_spec _ _ (by have := e2'.1; omega), rfl, bs_d (fun e4 => bs_d (fun e5 => bs_d (fun e6 => ?_) (fun e6 => ?_)) (fun e5 => ⟨congrArg _ (tr_false fun H => by unfold SayOk InR at *; omega), rfl⟩)) (fun e4 => ⟨congrArg _ (tr_false fun H => by unfold SayOk InR at *; omega), rfl⟩)⟩
    · have h6 := ba_nil.1 e6
      refine ⟨_, _, sizeChange_spec _ _ _ _, _, _, within_spec _ _ _ _, congrArg _ ?_, rfl⟩
      rw [inr_tr]
      refine tr_congr ⟨fun H => ⟨inT e1, ⟨by have := e2'.1; omega, e2'.2⟩, hcc, .inr (.inr ⟨hk, e2'.1, e4, e5, h6, by have := H.1; omega⟩)⟩, fun H => ?_⟩
      unfold SayOk InR at *; omega
    · have := mt ba_nil.2 e6
      exact ⟨congrArg _ (tr_false fun H => by unfold SayOk InR at *; omega), rfl⟩
end Go.Proofs.YtpgfjadjhliohaaGreat
