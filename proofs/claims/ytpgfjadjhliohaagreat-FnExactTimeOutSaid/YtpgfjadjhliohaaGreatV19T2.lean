/- T2. -/
import Derived.Test.YtpgfjadjhliohaaGreatV19R1
namespace Go.Dat
open Go.Abs
theorem ba_nil {t : ByteArray} : t = ⟨#[]⟩ ↔ t.size = 0 := ⟨fun h => by rw [h]; rfl, fun h => by
  obtain ⟨⟨l⟩⟩ := t
  cases l with
  | nil => rfl
  | cons x xs => cases h⟩
end Go.Dat
namespace Go.Proofs.YtpgfjadjhliohaaGreat
open Go.Abs Go.Dat
set_option maxRecDepth 100000
set_option maxHeartbeats 8000000
abbrev ChgAt (v : Int) (ps : List proofSh.T) (i : Nat) : Prop := AscAt (fun p : proofSh.T => p.2.1) (fun p : proofSh.T => PrfOk p.1 p.2.1 p.2.2.1 p.2.2.2 ∧ (show Int from p.1) < v) ps i
def chL (f v : Int) (ps : List proofSh.T) (a : Option Addr) (c : Nat) (h : AHeap) (hd : Nat → List (Nat × Value)) (S : List (List Value)) (po : List (Nat × Value)) : LSpec where
  ι := Nat
  κ := Unit
  I := fun i => i ≤ ps.length ∧ ∀ j, j < i → ChgAt v ps j
  μ := fun i => ps.length - i
  head := fun i => ⟨(1, .complex .f32 0 0) :: hd i, [[.int .i64 f, .int .i64 v, .slice a ps.length c]], h⟩
  post := fun _ => ⟨po, S, h⟩
  R := fun _ _ => ∀ j, j < ps.length → ChgAt v ps j
  ret := fun _ r h' => r = .bool false ∧ h' = h ∧ ∃ j, j < ps.length ∧ ¬ ChgAt v ps j
abbrev Q68 := Sh.T proofSh → Prop
abbrev Q69 := List (Sh.T proofSh)
abbrev Q6a := Option Addr
abbrev Q6b := ByteArray
abbrev Q6c := Sh.T changeSh → Prop
abbrev Q6d := List (Sh.T changeSh)
def Q4i (a b c d : Prop) := True ∧ a ∧ b ∧ c ∧ d
def Q4j := True ∧ True
def Q4k (a : Prop) := a ∧ True ∧ Q4j ∧ True
def Q4l (a : Prop) := True ∧ a ∧ True
def Q4m (a : Q68) (b : Q69) (c : Nat) := AscAt (fun (p : Sh.T proofSh) => Prod.fst (Prod.snd p)) a b c
def Q4n (a : Nat) (b : Q69) (c : Q68) := a < List.length b → Q4m c b a
def Q4o (a : Int × Sh.T (Sh.pair Sh.int (Sh.pair Sh.str (Sh.sl Sh.int)))) (b : Sh.T Sh.int × Int × Sh.T (Sh.pair Sh.str (Sh.sl Sh.int))) (c : Sh.T Sh.int × Sh.T Sh.int × ByteArray × Sh.T (Sh.sl Sh.int)) (d : Sh.T Sh.int × Sh.T Sh.int × Sh.T Sh.str × List (Sh.T Sh.int)) (e : Sh.T Sh.int × Sh.T (Sh.pair Sh.int (Sh.pair Sh.str (Sh.sl Sh.int)))) (f : Sh.T Sh.int) := PrfOk (Prod.fst a) (Prod.fst (Prod.snd b)) (Prod.fst (Prod.snd (Prod.snd c))) (Prod.snd (Prod.snd (Prod.snd d))) ∧ Prod.fst e < f
def Q4p := (0 : Int)
def Q4q (a : Q6a) (b c : Nat) (d : Int) (e f : Prop) := a = some (Addr.mk b c (some 4)) ∧ Q4p ≤ d ∧ e ∧ f
def Q4r := Value.bool false
def Q4s (a : Value) (b c : AHeap) (d : Prop) := a = Q4r ∧ b = c ∧ d
def Q4t (a : Bool) (b c : AHeap) (d e : Prop) := bs a (Q4s Q4r b c d) e
def Q4u := Value.complex FloatKind.f32 0 0
def Q4v (a b c d : Prop) := Q4u = Q4u ∧ a ∧ b ∧ c ∧ d
def Q4w (a : Value) (b c : AHeap) (d : Prop) := Q4s a b c d → Q4s a b c d
def Q4x (a : Nat) (b : Q69) (c : Q68) := a < List.length b ∧ Not (Q4m c b a)
def Q4y (a : Q69) (b : Nat) := List.length a - b
def Q4z (a : Nat) (b : Q69) (c : Prop) := a ≤ List.length b ∧ c
def Q50 (a b : Nat) (c : Q68) (d : Q69) := a < b → Q4m c d a
def Q51 (a : Q6a) (b : Q69) (c : Nat) := Value.slice a (List.length b) c
def Q52 (a : Int) := Value.int IntKind.i64 a
def Q53 (a b : Int) (c : Q6a) (d : Q69) (e : Nat) := [Q52 a, Q52 b, Q51 c d e] = [Q52 a, Q52 b, Q51 c d e]
def Q54 := (1 : Int)
def Q55 (a b : Nat) := Q52 (IntKind.wrap IntKind.i64 ((↑a : Int) + Q54)) = Q52 (↑b : Int)
def Q56 (a : AHeap) (b c : Nat) (d e : Int) := AHeap.ld a b (c + Int.toNat d) 1 1 = some [Q52 e]
def Q57 (a : Nat) := IntKind.wrap IntKind.i64 ((↑a : Int) - Q54)
def Q58 (a : Q69) := (↑(List.length a) : Int)
def Q59 (a : FuncId) (b : List Value) (c : AHeap) (d : Bool) (e : AHeap) := ACall Tryz.prog a b c (Value.bool d) e
def Q5a (a : List Value) := Value.agg (Array.mk a)
def Q5b (a b : Int) (c : Q6b) (d : Q6a) (e f : Nat) := [Q52 a, Q52 b, Value.string c, Value.slice d e f]
def Q5c (a : AHeap) (b c : Nat) (d : Int) (e : Nat) := AHeap.ld a b (c + Int.toNat d) 0 e
noncomputable def Q5d (a : Prop) := Value.bool (tr a)
def Q5e (a : Value) (b c : Int) (d : Q69) := a = Q5d (ChgOk b c d)
def Q5f (a : Nat) := Q52 Q4p = Q52 (↑a : Int)
theorem changeRight_spec (h : AHeap) (f v : Int) (ps : List proofSh.T) (a : Option Addr) (c : Nat) (h1 : Sl h proofSh ps (.slice a ps.length c)) (ok : (Sh.sl proofSh).ok ps) :
    ACall Tryz.prog 118 [.agg #[.int .i64 f, .int .i64 v, .slice a ps.length c]] h (.bool (tr (ChgOk f v ps))) h := by
  have n1 : ps.length ≤ 9223372036854775807 := ok.1
  refine acall_out (acall_vc (fun _ => false) (fun r => match r with | 7 => [(0, 1, []), (1, 3, []), (2, 0, []), (3, 0, []), (4, 0, []), (6, 0, []), (5, 1, []), (7, 1, []), (8, 0, []), (9, 0, []), (10, 0, []), (11, 0, []), (12, 0, []), (13, 0, []), (14, 0, []), (16, 0, []), (17, 0, []), (21, 0, []), (15, 1, []), (18, 0, []), (19, 0, []), (20, 1, []), (22, 1, []), (23, 0, []), (24, 0, []), (25, 0, [])] | _ => []) (fun _ => chL f v ps a c h (fun i => [(3, .int .i64 i)]) [] []) mixed Tryz.func118 rfl rfl rfl (Nat.le_of_ble_eq_true rfl) ?_ ?_)
  · (refine vc_mp (by kernel_rfl : (Q4i (Q4l Q4j) (Q4i (∀ (i : Nat), Q4z i ps (∀ (j : Nat), Q50 j i (fun (p : Sh.T proofSh) => Q4o p p p p p v) ps) → bs (decide ((↑i : Int) < Q58 ps)) (∃ (l r : Nat), Q4q a l r (↑i : Int) ((↑i : Int) < Q58 ps) (∃ (x x_1 : Int) (x_2 : ByteArray) (a_2 : Option Addr) (n c_1 : Nat), Q5c h l r (↑i : Int) 4 = some (Q5b x x_1 x_2 a_2 n c_1) ∧ (∃ (x_3 : Bool) (h' : AHeap), Q59 153 [Q5a (Q5b x x_1 x_2 a_2 n c_1)] h x_3 h' ∧ Q4t (not x_3) h' h (∃ (j : Nat), Q4x j ps (fun (p : Sh.T proofSh) => Q4o p p p p p v)) (Q4t (decide (x ≥ v)) h' h (∃ (j : Nat), Q4x j ps (fun (p : Sh.T proofSh) => Q4o p p p p p v)) (bs (decide ((↑i : Int) > Q4p)) (∃ (l r : Nat), Q4q a l r (Q57 i) (Q57 i < Q58 ps) (∃ (x : Int), Q56 h' l r (Q57 i) x ∧ Q4t (decide (x ≥ x_1)) h' h (∃ (j : Nat), Q4x j ps (fun (p : Sh.T proofSh) => Q4o p p p p p v)) (∃ (j : Nat), Q4v (Q55 i j) (Q53 f v a ps c) (h = h') (Q4z j ps (∀ (j_1 : Nat), Q50 j_1 j (fun (p : Sh.T proofSh) => Q4o p p p p p v) ps) ∧ Q4y ps j < Q4y ps i ∧ (∀ (k : Unit), (∀ (j : Nat), Q4n j ps (fun (p : Sh.T proofSh) => Q4o p p p p p v)) → (∀ (j : Nat), Q4n j ps (fun (p : Sh.T proofSh) => Q4o p p p p p v))) ∧ (∀ (v_1 : Value) (h_1 : AHeap), Q4w v_1 h_1 h (∃ (j : Nat), Q4x j ps (fun (p : Sh.T proofSh) => Q4o p p p p p v))))))) (∃ (j : Nat), Q4v (Q55 i j) (Q53 f v a ps c) (h = h') (Q4z j ps (∀ (j_1 : Nat), Q50 j_1 j (fun (p : Sh.T proofSh) => Q4o p p p p p v) ps) ∧ Q4y ps j < Q4y ps i ∧ (∀ (k : Unit), (∀ (j : Nat), Q4n j ps (fun (p : Sh.T proofSh) => Q4o p p p p p v)) → (∀ (j : Nat), Q4n j ps (fun (p : Sh.T proofSh) => Q4o p p p p p v))) ∧ (∀ (v_1 : Value) (h_1 : AHeap), Q4w v_1 h_1 h (∃ (j : Nat), Q4x j ps (fun (p : Sh.T proofSh) => Q4o p p p p p v)))))))))) (∃ (j : Unit), h = h ∧ (∀ (j : Nat), Q4n j ps (fun (p : Sh.T proofSh) => Q4o p p p p p v)))) (Q4l True) (Q4k True) True) True True) = _) ?_; delta Q4i Q4j Q4k Q4l Q4m Q4n Q4o Q4p Q4q Q4r Q4s Q4t Q4u Q4v Q4w Q4x Q4y Q4z Q50 Q51 Q52 Q53 Q54 Q55 Q56 Q57 Q58 Q59 Q5a Q5b Q5c)
    simp only [true_and, and_true]
    rintro (i : Nat) ⟨hi, hall⟩
    refine bs_d (fun hlt => ?_) (fun hge => ⟨(), fun j hj => hall j (by omega)⟩)
    have hio : i < ps.length := by omega
    obtain ⟨⟨pv, pq, po, pb⟩, hat⟩ : ∃ y : Int × Int × ByteArray × List Sh.int.T, ps[i]? = some y := ⟨_, List.getElem?_eq_getElem hio⟩
    obtain ⟨lo, r, row, ha, _, hrd, hld⟩ := h1.elem hat
    obtain ⟨v1, rfl, s1⟩ := rd_proof.1 hrd
    dsimp only at hld s1
    obtain ⟨a2, c2, rfl⟩ := s1.isSlice
    have okp := ok.2 (pv, pq, po, pb) (List.mem_of_getElem? hat)
    refine ⟨lo, r, ha, Int.natCast_nonneg _, hlt, _, _, _, _, _, _, hld, _, _, proofRight_spec h pv pq po pb a2 c2 s1 okp.2.2.2, bs_nb (fun e => ⟨rfl, i, hio, fun H => of_trn e (H.out hat).1.1⟩) (fun e1 => bs_d (fun e => ⟨rfl, i, hio, fun H => ?_⟩) (fun e2 => bs_d (fun hpos => ?_) (fun hpos => ?_)))⟩
    · have h2 : pv < v := (H.out hat).1.2
      omega
    · rw [wrap_pred (i := i) (by omega) (by omega)]
      obtain ⟨⟨yv, yq, yr⟩, hat2⟩ : ∃ y : Int × Int × ByteArray × List Sh.int.T, ps[i - 1]? = some y := ⟨_, List.getElem?_eq_getElem (by omega)⟩
      obtain ⟨lo', r', row', ha', _, hrd', hld'⟩ := h1.elem hat2
      obtain ⟨v2, rfl, _⟩ := rd_proof.1 hrd'
      dsimp only at hld'
      refine ⟨lo', r', ha', Int.natCast_nonneg _, by omega, _, ld_cells (k := 1) (m := 1) hld' (by simp), bs_d (fun e => ⟨rfl, i, hio, fun H => ?_⟩) (fun e3 => ?_)⟩
      · have h2 : yq < pq := (H.out hat).2 (yv, yq, yr) (by omega) hat2
        omega
      · exact ⟨i + 1, by rw [wrap_i64 (by omega)]; rfl, rfl, ⟨by omega, upto_step hall (.mk1 hat ⟨of_tr e1, by show pv < v; omega⟩ hat2 (by show yq < pq; omega))⟩, by omega, fun _ h => h, fun _ _ h => h⟩
    · exact ⟨i + 1, by rw [wrap_i64 (by omega)]; rfl, rfl, ⟨by omega, upto_step hall (.mk0 hat ⟨of_tr e1, by show pv < v; omega⟩ (by omega))⟩, by omega, fun _ h => h, fun _ _ h => h⟩
  (refine vc_mp (by kernel_rfl : (∃ (x : Bool) (h' : AHeap), Q59 76 [Q52 f] h x h' ∧ bs (not x) (Q5e Q4r f v ps ∧ h' = h) (∃ (x : Bool) (h'_1 : AHeap), Q59 78 [Q52 v, Q52 Q54, Q52 7] h' x h'_1 ∧ bs (not x) (Q5e Q4r f v ps ∧ h'_1 = h) (∃ (i : Nat), Q4v (Q5f i) (Q53 f v a ps c) (h = h'_1) (Q4z i ps (∀ (j : Nat), Q50 j i (fun (p : Sh.T proofSh) => Q4o p p p p p v) ps) ∧ (∀ (j : Unit), (∀ (j : Nat), Q4n j ps (fun (p : Sh.T proofSh) => Q4o p p p p p v)) → Q5e (Value.bool true) f v ps ∧ h = h) ∧ (∀ (v_1 : Value) (h_1 : AHeap), Q4s v_1 h_1 h (∃ (j : Nat), Q4x j ps (fun (p : Sh.T proofSh) => Q4o p p p p p v)) → Q5e v_1 f v ps ∧ h_1 = h))))) = _) ?_; delta Q4m Q4n Q4o Q4p Q4r Q4s Q4u Q4v Q4x Q4z Q50 Q51 Q52 Q53 Q54 Q59 Q5d Q5e Q5f)
  refine ⟨_, _, l09Who_spec _ _, bs_nb (fun e => ⟨congrArg _ (tr_false fun H => inF e H.1), rfl⟩) (fun e1 => ⟨_, _, l03Is_spec _ _ _ _, bs_nb (fun e => ⟨congrArg _ (tr_false fun H => inF e H.2.1), rfl⟩) (fun e2 => ?_)⟩)⟩
  exact ⟨(0 : Nat), rfl, rfl, rfl, rfl, ⟨Nat.zero_le _, fun j hj => absurd hj (Nat.not_lt_zero _)⟩, fun _ hall => ⟨congrArg _ (tr_true ⟨inT e1, inT e2, hall⟩), rfl⟩, fun v h1 ⟨e1, e2, j, hj, hn⟩ => ⟨e1.trans (congrArg _ (tr_false fun H => hn (H.2.2 j hj))), e2⟩⟩
def Q5g (a : Value) (b c d e f g h : Prop) := Q4v (a = a) b c (d ∧ e ∧ f ∧ g ∧ h)
def Q5h (a : Q69) := Q52 (↑(List.length a) : Int)
theorem isChange_spec (h : AHeap) (f v : Int) (ps : List proofSh.T) (a : Option Addr) (c : Nat) (h1 : Sl h proofSh ps (.slice a ps.length c)) (ok : (Sh.sl proofSh).ok ps) :
    ACall Tryz.prog 92 [.agg #[.int .i64 f, .int .i64 v, .slice a ps.length c]] h (.bool (tr (ChgOk f v ps))) h := by
  have n1 : ps.length ≤ 9223372036854775807 := ok.1
  refine acall_out (acall_vc (fun _ => false) (fun r => match r with | 4 => [(0, 1, []), (1, 3, []), (2, 0, []), (3, 0, []), (4, 0, []), (5, 0, []), (6, 0, []), (7, 0, []), (9, 0, []), (10, 0, []), (14, 0, []), (8, 1, []), (11, 0, []), (12, 0, []), (13, 1, []), (15, 1, []), (16, 0, []), (17, 0, []), (18, 0, []), (19, 0, []), (20, 0, []), (22, 0, []), (21, 1, []), (23, 1, []), (24, 0, []), (25, 0, [])] | _ => []) (fun _ => chL f v ps a c h (fun i => [(6, .slice a ps.length c), (7, .int .i64 ps.length), (8, .int .i64 i)]) [[.int .i64 f, .int .i64 v, .slice a ps.length c]] [(1, .complex .f32 0 0)]) mixed Tryz.func92 rfl rfl rfl (Nat.le_of_ble_eq_true rfl) ?_ ?_)
  · (refine vc_mp (by kernel_rfl : (True ∧ Q4i (∀ (i : Nat), Q4z i ps (∀ (j : Nat), Q50 j i (fun (p : Sh.T proofSh) => Q4o p p p p p v) ps) → bs (decide ((↑i : Int) < Q58 ps)) (∃ (l r : Nat), Q4q a l r (↑i : Int) ((↑i : Int) < Q58 ps) (∃ (x x_1 : Int) (x_2 : ByteArray) (a_2 : Option Addr) (n c_1 : Nat), Q5c h l r (↑i : Int) 4 = some (Q5b x x_1 x_2 a_2 n c_1) ∧ (∃ (x_3 : Bool) (h' : AHeap), Q59 135 [Q5a (Q5b x x_1 x_2 a_2 n c_1)] h x_3 h' ∧ Q4t (not x_3) h' h (∃ (j : Nat), Q4x j ps (fun (p : Sh.T proofSh) => Q4o p p p p p v)) (bs (decide ((↑i : Int) > Q4p)) (∃ (l r : Nat), Q4q a l r (Q57 i) (Q57 i < Q58 ps) (∃ (x_4 : Int), Q56 h' l r (Q57 i) x_4 ∧ Q4t (decide (x_4 ≥ x_1)) h' h (∃ (j : Nat), Q4x j ps (fun (p : Sh.T proofSh) => Q4o p p p p p v)) (Q4t (decide (x ≥ v)) h' h (∃ (j : Nat), Q4x j ps (fun (p : Sh.T proofSh) => Q4o p p p p p v)) (∃ (j : Nat), Q5g (Q51 a ps c) (Q5h ps = Q5h ps) (Q55 i j) (Q53 f v a ps c) (h = h') (Q4z j ps (∀ (j_1 : Nat), Q50 j_1 j (fun (p : Sh.T proofSh) => Q4o p p p p p v) ps)) (Q4y ps j < Q4y ps i) ((∀ (k : Unit), (∀ (j : Nat), Q4n j ps (fun (p : Sh.T proofSh) => Q4o p p p p p v)) → (∀ (j : Nat), Q4n j ps (fun (p : Sh.T proofSh) => Q4o p p p p p v))) ∧ (∀ (v_1 : Value) (h_1 : AHeap), Q4w v_1 h_1 h (∃ (j : Nat), Q4x j ps (fun (p : Sh.T proofSh) => Q4o p p p p p v)))))))) (Q4t (decide (x ≥ v)) h' h (∃ (j : Nat), Q4x j ps (fun (p : Sh.T proofSh) => Q4o p p p p p v)) (∃ (j : Nat), Q5g (Q51 a ps c) (Q5h ps = Q5h ps) (Q55 i j) (Q53 f v a ps c) (h = h') (Q4z j ps (∀ (j_1 : Nat), Q50 j_1 j (fun (p : Sh.T proofSh) => Q4o p p p p p v) ps)) (Q4y ps j < Q4y ps i) ((∀ (k : Unit), (∀ (j : Nat), Q4n j ps (fun (p : Sh.T proofSh) => Q4o p p p p p v)) → (∀ (j : Nat), Q4n j ps (fun (p : Sh.T proofSh) => Q4o p p p p p v))) ∧ (∀ (v_1 : Value) (h_1 : AHeap), Q4w v_1 h_1 h (∃ (j : Nat), Q4x j ps (fun (p : Sh.T proofSh) => Q4o p p p p p v)))))))))) (∃ (j : Unit), Q4u = Q4u ∧ Q53 f v a ps c ∧ h = h ∧ (∀ (j : Nat), Q4n j ps (fun (p : Sh.T proofSh) => Q4o p p p p p v)))) True Q4j (Q4k True ∧ True) ∧ True ∧ True) = _) ?_; delta Q4i Q4j Q4k Q4m Q4n Q4o Q4p Q4q Q4r Q4s Q4t Q4u Q4v Q4w Q4x Q4y Q4z Q50 Q51 Q52 Q53 Q54 Q55 Q56 Q57 Q58 Q59 Q5a Q5b Q5c Q5g Q5h)
    simp only [true_and, and_true]
    rintro (i : Nat) ⟨hi, hall⟩
    refine bs_d (fun hlt => ?_) (fun hge => ⟨(), fun j hj => hall j (by omega)⟩)
    have hio : i < ps.length := by omega
    obtain ⟨⟨pv, pq, po, pb⟩, hat⟩ : ∃ y : Int × Int × ByteArray × List Sh.int.T, ps[i]? = some y := ⟨_, List.getElem?_eq_getElem hio⟩
    obtain ⟨lo, r, row, ha, _, hrd, hld⟩ := h1.elem hat
    obtain ⟨v1, rfl, s1⟩ := rd_proof.1 hrd
    dsimp only at hld s1
    obtain ⟨a2, c2, rfl⟩ := s1.isSlice
    have okp := ok.2 (pv, pq, po, pb) (List.mem_of_getElem? hat)
    refine ⟨lo, r, ha, Int.natCast_nonneg _, hlt, _, _, _, _, _, _, hld, _, _, isProof_spec h pv pq po pb a2 c2 s1 okp.2.2.2, bs_nb (fun e => ⟨rfl, i, hio, fun H => of_trn e (H.out hat).1.1⟩) (fun e1 => bs_d (fun hpos => ?_) (fun hpos => ?_))⟩
    · rw [wrap_pred (i := i) (by omega) (by omega)]
      obtain ⟨⟨yv, yq, yr⟩, hat2⟩ : ∃ y : Int × Int × ByteArray × List Sh.int.T, ps[i - 1]? = some y := ⟨_, List.getElem?_eq_getElem (by omega)⟩
      obtain ⟨lo', r', row', ha', _, hrd', hld'⟩ := h1.elem hat2
      obtain ⟨v2, rfl, _⟩ := rd_proof.1 hrd'
      dsimp only at hld'
      refine ⟨lo', r', ha', Int.natCast_nonneg _, by omega, _, ld_cells (k := 1) (m := 1) hld' (by simp), bs_d (fun e => ⟨rfl, i, hio, fun H => ?_⟩) (fun e3 => bs_d (fun e => ⟨rfl, i, hio, fun H => ?_⟩) (fun e2 => ?_))⟩
      · have h2 : yq < pq := (H.out hat).2 (yv, yq, yr) (by omega) hat2
        omega
      · have h2 : pv < v := (H.out hat).1.2
        omega
      · exact ⟨i + 1, by rw [wrap_i64 (by omega)]; rfl, rfl, ⟨by omega, upto_step hall (.mk1 hat ⟨of_tr e1, by show pv < v; omega⟩ hat2 (by show yq < pq; omega))⟩, by omega, fun _ h => h, fun _ _ h => h⟩
    · refine bs_d (fun e => ⟨rfl, i, hio, fun H => ?_⟩) (fun e2 => ?_)
      · have h2 : pv < v := (H.out hat).1.2
        omega
      · exact ⟨i + 1, by rw [wrap_i64 (by omega)]; rfl, rfl, ⟨by omega, upto_step hall (.mk0 hat ⟨of_tr e1, by show pv < v; omega⟩ (by omega))⟩, by omega, fun _ h => h, fun _ _ h => h⟩
  (refine vc_mp (by kernel_rfl : (∃ (i : Nat), Q5g (Q51 a ps c) (Q5h ps = Q5h ps) (Q5f i) (Q53 f v a ps c) (h = h) (Q4z i ps (∀ (j : Nat), Q50 j i (fun (p : Sh.T proofSh) => Q4o p p p p p v) ps)) (∀ (j : Unit), (∀ (j : Nat), Q4n j ps (fun (p : Sh.T proofSh) => Q4o p p p p p v)) → (∃ (x : Bool) (h' : AHeap), Q59 86 [Q52 f] h x h' ∧ bs x (∃ (x : Bool) (h'_1 : AHeap), Q59 87 [Q52 v, Q52 Q54] h' x h'_1 ∧ Q5e (Value.bool x) f v ps ∧ h'_1 = h) (Q5e Q4r f v ps ∧ h' = h))) (∀ (v_1 : Value) (h_1 : AHeap), Q4s v_1 h_1 h (∃ (j : Nat), Q4x j ps (fun (p : Sh.T proofSh) => Q4o p p p p p v)) → Q5e v_1 f v ps ∧ h_1 = h)) = _) ?_; delta Q4m Q4n Q4o Q4p Q4r Q4s Q4u Q4v Q4x Q4z Q50 Q51 Q52 Q53 Q54 Q59 Q5d Q5e Q5f Q5g Q5h)
  refine ⟨(0 : Nat), rfl, rfl, rfl, rfl, rfl, rfl, ⟨Nat.zero_le _, fun j hj => absurd hj (Nat.not_lt_zero _)⟩, fun _ hall => ?_, fun v h1 ⟨e1, e2, j, hj, hn⟩ => ⟨e1.trans (congrArg _ (tr_false fun H => hn (H.2.2 j hj))), e2⟩⟩
  refine ⟨_, _, isReplica_spec _ _, bs_b (fun e1 => ⟨_, _, isView_spec _ _ _, congrArg _ (tr_congr ⟨fun H => ⟨inT e1, H, hall⟩, fun H => H.2.1⟩), rfl⟩) (fun e => ⟨congrArg _ (tr_false fun H => inF e H.1), rfl⟩)⟩
abbrev ChgsAt (v : Int) (cs : List changeSh.T) (i : Nat) : Prop := AscAt (fun c : changeSh.T => c.1) (fun c : changeSh.T => ChgOk c.1 c.2.1 c.2.2 ∧ (show Int from c.2.1) = v) cs i
def csL (v : Int) (cs : List changeSh.T) (h : AHeap) (hd : Nat → List (Nat × Value)) (S : List (List Value)) (po : List (Nat × Value)) : LSpec where
  ι := Nat
  κ := Unit
  I := fun i => i ≤ cs.length ∧ ∀ j, j < i → ChgsAt v cs j
  μ := fun i => cs.length - i
  head := fun i => ⟨hd i, S, h⟩
  post := fun _ => ⟨po, S, h⟩
  R := fun _ _ => ∀ j, j < cs.length → ChgsAt v cs j
  ret := fun _ r h' => r = .bool false ∧ h' = h ∧ ∃ j, j < cs.length ∧ ¬ ChgsAt v cs j
def Q5i (a : Q6c) (b : Q6d) (c : Nat) := AscAt (fun (c : Sh.T changeSh) => Prod.fst c) a b c
def Q5j (a : Nat) (b : Q6d) (c : Q6c) := a < List.length b → Q5i c b a
def Q5k (a : Int × Sh.T (Sh.pair Sh.int (Sh.sl proofSh))) (b : Sh.T Sh.int × Int × Sh.T (Sh.sl proofSh)) (c : Sh.T Sh.int × Sh.T Sh.int × List (Sh.T proofSh)) (d : Sh.T Sh.int × Sh.T Sh.int × Sh.T (Sh.sl proofSh)) (e : Sh.T Sh.int) := ChgOk (Prod.fst a) (Prod.fst (Prod.snd b)) (Prod.snd (Prod.snd c)) ∧ Prod.fst (Prod.snd d) = e
def Q5l (a : Q6a) (b : Q6d) (c : Nat) := Value.slice a (List.length b) c
def Q5m (a : Q6d) := (↑(List.length a) : Int)
def Q5n (a : Q6a) (b c : Nat) (d : Int) (e : Q6d) (f : Prop) := a = some (Addr.mk b c (some 3)) ∧ Q4p ≤ d ∧ d < Q5m e ∧ f
def Q5o (a : Q6a) (b : Q6d) (c : Nat) (d : Int) (e f g : Prop) := Q5l a b c = Q5l a b c ∧ Q52 d = Q52 d ∧ e ∧ f ∧ g
def Q5p (a : Nat) (b : Q6d) (c : Q6c) := a < List.length b ∧ Not (Q5i c b a)
def Q5q (a : Q6d) (b : Nat) := List.length a - b
def Q5r (a : Nat) (b : Q6d) (c : Prop) := a ≤ List.length b ∧ c
def Q5s (a b : Nat) (c : Q6c) (d : Q6d) := a < b → Q5i c d a
def Q5t (a : AHeap) (b c : Nat) (d e : Int) := Q5c a b c d 1 = some [Q52 e]
def Q5u (a b : Int) (c : Q6a) (d e : Nat) := [Q52 a, Q52 b, Value.slice c d e]
theorem changes_spec (h : AHeap) (v : Int) (cs : List changeSh.T) (a : Option Addr) (c : Nat) (h1 : Sl h changeSh cs (.slice a cs.length c)) (ok : (Sh.sl changeSh).ok cs) :
    ACall Tryz.prog 119 [.slice a cs.length c, .int .i64 v] h (.bool (tr (ChgsOk v cs ∧ 3 ≤ cs.length))) h := by
  have n1 : cs.length ≤ 9223372036854775807 := ok.1
  refine acall_out (acall_vc (fun _ => false) (fun r => match r with | 4 => [(0, 0, []), (1, 0, []), (2, 0, []), (3, 1, []), (4, 3, []), (5, 0, []), (6, 0, []), (7, 0, []), (8, 0, []), (9, 0, []), (10, 0, []), (12, 0, []), (11, 1, []), (13, 0, []), (14, 0, []), (15, 0, []), (16, 0, []), (17, 0, []), (18, 0, []), (19, 0, []), (20, 0, []), (21, 0, []), (22, 0, []), (23, 0, []), (25, 0, []), (26, 0, []), (27, 0, []), (28, 0, []), (24, 1, []), (29, 1, []), (30, 0, []), (31, 0, []), (32, 0, [])] | _ => []) (fun _ => csL v cs h (fun i => [(0, .slice a cs.length c), (1, .int .i64 v), (5, .int .i64 i)]) [] [(0, .slice a cs.length c)]) mixed Tryz.func119 rfl rfl rfl (Nat.le_of_ble_eq_true rfl) ?_ ?_)
  · (refine vc_mp (by kernel_rfl : (True ∧ Q4i (∀ (i : Nat), Q5r i cs (∀ (j : Nat), Q5s j i (fun (c : Sh.T changeSh) => Q5k c c c c v) cs) → bs (decide ((↑i : Int) < Q5m cs)) (∃ (l r : Nat), Q5n a l r (↑i : Int) cs (∃ (x x_1 : Int) (a_2 : Option Addr) (n c_1 : Nat), Q5c h l r (↑i : Int) 3 = some (Q5u x x_1 a_2 n c_1) ∧ (∃ (x_2 : Bool) (h' : AHeap), Q59 118 [Q5a (Q5u x x_1 a_2 n c_1)] h x_2 h' ∧ Q4t (not x_2) h' h (∃ (j : Nat), Q5p j cs (fun (c : Sh.T changeSh) => Q5k c c c c v)) (∃ (l r : Nat), Q5n a l r (↑i : Int) cs (∃ (x : Int), Q56 h' l r (↑i : Int) x ∧ Q4t (not (decide (x = v))) h' h (∃ (j : Nat), Q5p j cs (fun (c : Sh.T changeSh) => Q5k c c c c v)) (bs (decide ((↑i : Int) > Q4p)) (∃ (l r : Nat), Q5n a l r (Q57 i) cs (∃ (l_1 r_1 : Nat), Q5n a l_1 r_1 (↑i : Int) cs (∃ (x : Int), Q5t h' l r (Q57 i) x ∧ (∃ (x_3 : Int), Q5t h' l_1 r_1 (↑i : Int) x_3 ∧ Q4t (decide (x ≥ x_3)) h' h (∃ (j : Nat), Q5p j cs (fun (c : Sh.T changeSh) => Q5k c c c c v)) (∃ (j : Nat), Q5o a cs c v (Q55 i j) (h = h') (Q5r j cs (∀ (j_1 : Nat), Q5s j_1 j (fun (c : Sh.T changeSh) => Q5k c c c c v) cs) ∧ Q5q cs j < Q5q cs i ∧ (∀ (k : Unit), (∀ (j : Nat), Q5j j cs (fun (c : Sh.T changeSh) => Q5k c c c c v)) → (∀ (j : Nat), Q5j j cs (fun (c : Sh.T changeSh) => Q5k c c c c v))) ∧ (∀ (v_1 : Value) (h_1 : AHeap), Q4w v_1 h_1 h (∃ (j : Nat), Q5p j cs (fun (c : Sh.T changeSh) => Q5k c c c c v))))))))) (∃ (j : Nat), Q5o a cs c v (Q55 i j) (h = h') (Q5r j cs (∀ (j_1 : Nat), Q5s j_1 j (fun (c : Sh.T changeSh) => Q5k c c c c v) cs) ∧ Q5q cs j < Q5q cs i ∧ (∀ (k : Unit), (∀ (j : Nat), Q5j j cs (fun (c : Sh.T changeSh) => Q5k c c c c v)) → (∀ (j : Nat), Q5j j cs (fun (c : Sh.T changeSh) => Q5k c c c c v))) ∧ (∀ (v_1 : Value) (h_1 : AHeap), Q4w v_1 h_1 h (∃ (j : Nat), Q5p j cs (fun (c : Sh.T changeSh) => Q5k c c c c v))))))))))) (∃ (j : Unit), Q5l a cs c = Q5l a cs c ∧ h = h ∧ (∀ (j : Nat), Q5j j cs (fun (c : Sh.T changeSh) => Q5k c c c c v)))) (Q4l True) (Q4l Q4j) True ∧ True ∧ True) = _) ?_; delta Q4i Q4j Q4l Q4p Q4r Q4s Q4t Q4w Q52 Q54 Q55 Q56 Q57 Q59 Q5a Q5c Q5i Q5j Q5k Q5l Q5m Q5n Q5o Q5p Q5q Q5r Q5s Q5t Q5u)
    simp only [true_and, and_true]
    rintro (i : Nat) ⟨hi, hall⟩
    refine bs_d (fun hlt => ?_) (fun hge => ⟨(), fun j hj => hall j (by omega)⟩)
    have hio : i < cs.length := by omega
    obtain ⟨⟨cf, cv, cp⟩, hat⟩ : ∃ y : Int × Int × List proofSh.T, cs[i]? = some y := ⟨_, List.getElem?_eq_getElem hio⟩
    obtain ⟨lo, r, row, ha, _, hrd, hld⟩ := h1.elem hat
    obtain ⟨v1, rfl, s1⟩ := rd_change.1 hrd
    dsimp only at hld s1
    obtain ⟨a2, c2, rfl⟩ := s1.isSlice
    have okp := ok.2 (cf, cv, cp) (List.mem_of_getElem? hat)
    refine ⟨lo, r, ha, Int.natCast_nonneg _, hlt, _, _, _, _, _, hld, _, _, changeRight_spec h cf cv cp a2 c2 s1 okp.2.2, bs_nb (fun e => ⟨rfl, i, hio, fun H => of_trn e (H.out hat).1.1⟩) (fun e1 => ?_)⟩
    refine ⟨lo, r, ha, Int.natCast_nonneg _, hlt, _, ld_cells (k := 1) (m := 1) hld (by simp), bs_dn (fun e => ⟨rfl, i, hio, fun H => e (H.out hat).1.2⟩) (fun e2 => bs_d (fun hpos => ?_) (fun hpos => ?_))⟩
    · rw [wrap_pred (i := i) (by omega) (by omega)]
      obtain ⟨⟨yf, yr⟩, hat2⟩ : ∃ y : Int × Int × List proofSh.T, cs[i - 1]? = some y := ⟨_, List.getElem?_eq_getElem (by omega)⟩
      obtain ⟨lo', r', row', ha', _, hrd', hld'⟩ := h1.elem hat2
      obtain ⟨v2, rfl, _⟩ := rd_change.1 hrd'
      dsimp only at hld'
      refine ⟨lo', r', ha', Int.natCast_nonneg _, by omega, lo, r, ha, Int.natCast_nonneg _, hlt, _, ld_cells (k := 0) (m := 1) hld' (by simp), _, ld_cells (k := 0) (m := 1) hld (by simp), bs_d (fun e => ⟨rfl, i, hio, fun H => ?_⟩) (fun e3 => ?_)⟩
      · have h2 : yf < cf := (H.out hat).2 (yf, yr) (by omega) hat2
        omega
      · exact ⟨i + 1, by rw [wrap_i64 (by omega)]; rfl, rfl, ⟨by omega, upto_step hall (.mk1 hat ⟨of_tr e1, e2⟩ hat2 (by show yf < cf; omega))⟩, by omega, fun _ h => h, fun _ _ h => h⟩
    · exact ⟨i + 1, by rw [wrap_i64 (by omega)]; rfl, rfl, ⟨by omega, upto_step hall (.mk0 hat ⟨of_tr e1, e2⟩ (by omega))⟩, by omega, fun _ h => h, fun _ _ h => h⟩
  (refine vc_mp (by kernel_rfl : (∃ (i : Nat), Q5o a cs c v (Q5f i) (h = h) (Q5r i cs (∀ (j : Nat), Q5s j i (fun (c : Sh.T changeSh) => Q5k c c c c v) cs) ∧ (∀ (j : Unit), (∀ (j : Nat), Q5j j cs (fun (c : Sh.T changeSh) => Q5k c c c c v)) → Value.bool (decide (Q5m cs ≥ 3)) = Q5d (ChgsOk v cs ∧ 3 ≤ List.length cs) ∧ h = h) ∧ (∀ (v_1 : Value) (h_1 : AHeap), Q4s v_1 h_1 h (∃ (j : Nat), Q5p j cs (fun (c : Sh.T changeSh) => Q5k c c c c v)) → v_1 = Q5d (ChgsOk v cs ∧ 3 ≤ List.length cs) ∧ h_1 = h))) = _) ?_; delta Q4p Q4r Q4s Q52 Q5d Q5f Q5i Q5j Q5k Q5l Q5m Q5o Q5p Q5r Q5s)
  refine ⟨(0 : Nat), rfl, rfl, rfl, rfl, ⟨Nat.zero_le _, fun j hj => absurd hj (Nat.not_lt_zero _)⟩, fun _ hall => ⟨congrArg _ ?_, rfl⟩, fun v h1 ⟨e1, e2, j, hj, hn⟩ => ⟨e1.trans (congrArg _ (tr_false fun H => hn (H.1 j hj))), e2⟩⟩
  rw [tr_dec]
  exact tr_congr ⟨fun H => ⟨hall, by omega⟩, fun H => by have := H.2; omega⟩
def Q5v (a b c d : Int) (e : Q6b) (f : Q6d) (g : Prop) := Q4r = Q5d (SayOk a b c d e f) ∧ g
def Q5w (a b : Bool) (c : Prop) (d e f g : Int) (h : Q6b) (i : Q6d) (j k : AHeap) := bs a (bs b c (Q5v d e f g h i (j = k))) (Q5v d e f g h i (j = k))
def Q5x (a : Bool) (b c d e : Int) (f : Q6b) (g : Q6d) := Value.bool a = Q5d (SayOk b c d e f g)
def Q5y := ByteArray.mk (Array.mk List.nil)
def Q5z (a : Int) (b : AHeap) (c : Int) (d : AHeap) := ACall Tryz.prog 33 [Q52 a] b (Q52 c) d
def Q60 (a : FuncId) (b : List Value) (c : AHeap) (d : Bool) (e : AHeap) (f : Prop) (g h i j : Int) (k : Q6b) (l : Q6d) (m : AHeap) := Q59 a b c d e ∧ bs d f (Q5v g h i j k l (e = m))
def Q61 (a : FuncId) (b : Q6b) (c : AHeap) (d : Bool) (e : AHeap) (f : Bool) (g : Prop) (h i j k : Int) (l : Q6d) (m : AHeap) := Q60 a [Value.string b] c d e (bs f g (Q5v h i j k b l (e = m))) h i j k b l m
def Q62 (a : Bool) (b c d e : Int) (f : Q6b) (g : Q6d) (h i : AHeap) (j : Prop) := bs (not a) (Q5x true b c d e f g ∧ h = i) j
def Q63 (a : Prop) (b : Int) (c : Bool) (d e f : Int) (g : Q6b) (h : Q6d) (i j : AHeap) := a ∧ Q52 b = Q52 b ∧ Q5x c d b e f g h ∧ i = j
theorem sayRight_spec (h : AHeap) (k f v q : Int) (op : ByteArray) (cs : List changeSh.T) (a : Option Addr) (c : Nat) (h1 : Sl h changeSh cs (.slice a cs.length c)) (ok : (Sh.sl changeSh).ok cs) :
    ACall Tryz.prog 61 [.agg #[.int .i64 k, .int .i64 f, .int .i64 v, .int .i64 q, .string op, .slice a cs.length c]] h (.bool (tr (SayOk k f v q op cs))) h := by
  have n1 : cs.length ≤ 9223372036854775807 := ok.1
  refine acall_out (acall_vc (fun _ => false) (fun r => match r with | 7 => [(0, 0, []), (1, 1, []), (2, 3, []), (3, 0, []), (4, 0, []), (5, 1, []), (6, 3, []), (7, 0, []), (8, 0, []), (9, 0, []), (10, 1, []), (11, 0, []), (12, 0, []), (13, 0, []), (14, 0, []), (15, 0, []), (16, 1, []), (17, 0, []), (18, 0, []), (19, 0, []), (21, 0, []), (20, 1, []), (22, 1, []), (23, 3, [20]), (24, 0, []), (25, 0, []), (26, 0, []), (27, 0, [])] | 9 => [(0, 0, []), (1, 1, []), (2, 0, []), (3, 0, []), (4, 0, []), (5, 1, []), (6, 0, []), (7, 0, []), (8, 0, []), (9, 0, []), (10, 1, []), (11, 0, []), (12, 0, []), (13, 0, []), (14, 0, []), (15, 1, []), (16, 0, []), (17, 0, []), (18, 0, []), (19, 0, []), (20, 0, []), (21, 1, []), (22, 0, []), (23, 1, []), (24, 3, []), (25, 0, []), (26, 0, []), (27, 0, []), (32, 0, []), (28, 1, []), (29, 0, []), (30, 0, []), (31, 1, []), (33, 1, []), (34, 0, []), (35, 0, []), (36, 0, []), (37, 0, []), (42, 0, []), (38, 1, []), (39, 0, []), (40, 0, []), (41, 1, []), (43, 1, []), (44, 0, []), (45, 0, []), (46, 0, [])] | 11 => [(0, 0, []), (1, 1, []), (2, 0, []), (3, 0, []), (4, 0, []), (6, 0, []), (5, 1, []), (7, 1, []), (8, 3, [5]), (9, 0, []), (10, 0, []), (11, 0, []), (12, 0, []), (13, 1, []), (14, 0, []), (15, 0, []), (16, 0, []), (17, 0, []), (18, 1, []), (19, 0, []), (20, 0, []), (21, 0, []), (22, 0, []), (24, 0, []), (23, 1, []), (25, 1, []), (26, 3, []), (27, 0, []), (28, 0, [])] | _ => []) (fun _ => .none) mixed Tryz.func61 rfl rfl rfl (Nat.le_of_ble_eq_true rfl) (by (refine vc_mp (by kernel_rfl : (Q4i (Q4l Q4j) (Q4i (Q4i True True True True) Q4j True (Q4k Q4j)) True True) = _) ?_; delta Q4i Q4j Q4k Q4l); simp only [and_self]) ?_)
  (refine vc_mp (by kernel_rfl : (∃ (x : Bool) (h' : AHeap), Q59 76 [Q52 f] h x h' ∧ bs (not x) (Q5v k f v q op cs (h' = h)) (∃ (x : Bool) (h'_1 : AHeap), Q59 77 [Q52 v] h' x h'_1 ∧ bs (not x) (Q5v k f v q op cs (h'_1 = h)) (bs (decide (k = Q54)) (∃ (x : Bool) (h' : AHeap), Q60 117 [Q52 q] h'_1 x h' (∃ (x : Bool) (h'_2 : AHeap), Q61 50 op h' x h'_2 (decide (Q5m cs = Q4p)) (Q62 (decide (k = Q54)) k f v q op cs h'_2 h (∃ (x : Int) (h' : AHeap), Q63 (Q5z v h'_2 x h') f (decide (f = x)) k v q op cs h' h)) k f v q cs h) k f v q op cs h) (bs (decide (k = 2)) (∃ (x : Bool) (h' : AHeap), Q60 117 [Q52 q] h'_1 x h' (∃ (x : Bool) (h'_2 : AHeap), Q61 50 op h' x h'_2 (decide (Q5m cs = Q4p)) (Q62 (decide (k = Q54)) k f v q op cs h'_2 h (∃ (x : Int) (h' : AHeap), Q63 (Q5z v h'_2 x h') f (decide (f = x)) k v q op cs h' h)) k f v q cs h) k f v q op cs h) (bs (decide (k = 3)) (∃ (x : Bool) (h' : AHeap), Q60 117 [Q52 q] h'_1 x h' (∃ (x : Bool) (h'_2 : AHeap), Q61 50 op h' x h'_2 (decide (Q5m cs = Q4p)) (Q62 (decide (k = Q54)) k f v q op cs h'_2 h (∃ (x : Int) (h' : AHeap), Q63 (Q5z v h'_2 x h') f (decide (f = x)) k v q op cs h' h)) k f v q cs h) k f v q op cs h) (bs (decide (k = 4)) (Q5w (decide (v ≥ Q54)) (decide (q = Q4p)) (Q5w (decide (op = Q5y)) (decide (Q5m cs = Q54)) (∃ (l r : Nat), Q5n a l r Q4p cs (∃ (x x_1 : Int) (a_1 : Option Addr) (n c : Nat), Q5c h'_1 l r Q4p 3 = some (Q5u x x_1 a_1 n c) ∧ (∃ (x_2 : Bool) (h' : AHeap), Q60 118 [Q5a (Q5u x x_1 a_1 n c)] h'_1 x_2 h' (∃ (l r : Nat), Q5n a l r Q4p cs (∃ (x : Int), Q5t h' l r Q4p x ∧ bs (decide (x = f)) (∃ (l r : Nat), Q5n a l r Q4p cs (∃ (x : Int), Q56 h' l r Q4p x ∧ Q5x (decide (x = v)) k f v q op cs ∧ h' = h)) (Q5v k f v q op cs (h' = h)))) k f v q op cs h))) k f v q op cs h'_1 h) k f v q op cs h'_1 h) (Q5w (decide (k = 5)) (decide (v ≥ Q54)) (∃ (x : Int) (h' : AHeap), Q5z v h'_1 x h' ∧ Q52 f = Q52 f ∧ Q5w (decide (f = x)) (decide (q = Q4p)) (bs (decide (op = Q5y)) (∃ (x : Bool) (h'_2 : AHeap), Q59 119 [Q5l a cs c, Q52 v] h' x h'_2 ∧ Q5x x k f v q op cs ∧ h'_2 = h) (Q5v k f v q op cs (h' = h))) k f v q op cs h' h) k f v q op cs h'_1 h))))))) = _) ?_; delta Q4p Q4r Q52 Q54 Q56 Q59 Q5a Q5c Q5d Q5l Q5m Q5n Q5t Q5u Q5v Q5w Q5x Q5y Q5z Q60 Q61 Q62 Q63)
  refine ⟨_, _, l09Who_spec _ _, bs_nb (fun e => ⟨congrArg _ (tr_false fun H => inF e H.1), rfl⟩) (fun e1 => ⟨_, _, l10View_spec _ _, bs_nb (fun e => ⟨congrArg _ (tr_false fun H => of_trn e H.2.1), rfl⟩) (fun e2 => ?_)⟩)⟩
  refine bs_d (fun hk => ?_) (fun hk1 => bs_d (fun hk => ?_) (fun hk2 => bs_d (fun hk => ?_) (fun hk3 => ?_)))
  iterate 3
    have hk' : InR 1 3 k := by unfold InR; omega
    refine ⟨_, _, l10Seq_spec _ _, bs_b (fun e3 => ?_) (fun e => ⟨congrArg _ (tr_false fun H => by have e' := of_trn e; unfold SayOk InR at *; omega), rfl⟩)⟩
    refine ⟨_, _, opRight_spec _ _, bs_b (fun e4 => ?_) (fun e => ⟨congrArg _ (tr_false fun H => by have e' := of_trn e; unfold SayOk InR at *; omega), rfl⟩)⟩
    refine bs_d (fun e5 => ?_) (fun e5 => ⟨congrArg _ (tr_false fun H => by unfold SayOk InR at *; omega), rfl⟩)
    have hcs : cs = [] := List.eq_nil_of_length_eq_zero (by omega)
    have hcc : ChgsOk v cs := by rw [hcs]; exact Asc.nil
    have hv0 : 0 ≤ v := (of_tr e2).1
    refine bs_dn (fun e6 => ⟨congrArg _ (tr_true ⟨inT e1, of_tr e2, hcc, .inl ⟨hk', of_tr e3, of_tr e4, by omega, fun h => absurd h e6⟩⟩), rfl⟩) (fun e6 => ⟨_, _, specLeader _ _ hv0, rfl, congrArg _ ?_, rfl⟩)
    rw [tr_dec]
    exact tr_congr ⟨fun h => ⟨inT e1, of_tr e2, hcc, .inl ⟨hk', of_tr e3, of_tr e4, by omega, fun _ => h⟩⟩, fun H => by unfold SayOk InR at *; omega⟩
  have hv0 : 0 ≤ v := (of_tr e2).1
  refine bs_d (fun hk => ?_) (fun hk4 => bs_d (fun hk => ?_) (fun hk5 => ⟨congrArg _ (tr_false fun H => by unfold SayOk InR at *; omega), rfl⟩))
  · refine bs_d (fun e3 => bs_d (fun e4 => bs_d (fun e5 => bs_d (fun e6 => ?_) (fun e6 => ⟨congrArg _ (tr_false fun H => by unfold SayOk InR at *; omega), rfl⟩)) (fun e5 => ?_)) (fun e4 => ⟨congrArg _ (tr_false fun H => by unfold SayOk InR at *; omega), rfl⟩)) (fun e3 => ⟨congrArg _ (tr_false fun H => by unfold SayOk InR at *; omega), rfl⟩)
    · obtain ⟨⟨cf, cv, cp⟩, hat⟩ : ∃ y : Int × Int × List proofSh.T, cs[0]? = some y := ⟨_, List.getElem?_eq_getElem (by omega)⟩
      obtain ⟨lo, r, row, ha, _, hrd, hld⟩ := h1.elem hat
      obtain ⟨v1, rfl, s1⟩ := rd_change.1 hrd
      dsimp only at hld s1
      obtain ⟨a2, c2, rfl⟩ := s1.isSlice
      have okp := ok.2 (cf, cv, cp) (List.mem_of_getElem? hat)
      have hcs : cs = [(cf, cv, cp)] := by
        match cs, hat, e6 with
        | [x], hat, _ => cases hat; rfl
        | x :: y :: zs, _, e6 => exfalso; simp at e6; omega
      have hch : ChgsOk v cs ↔ ChgOk cf cv cp ∧ cv = v := by rw [hcs]; exact Asc.one
      have h5 := ba_nil.1 e5
      have out : SayOk k f v q op cs → ChgOk cf cv cp ∧ cv = v ∧ cf = f := fun H => by
        obtain ⟨q1, q2⟩ := hch.1 H.2.2.1
        refine ⟨q1, q2, ?_⟩
        rcases H.2.2.2 with H | H | H
        · unfold InR at *; omega
        · exact H.2.2.2.2.2 _ hat
        · omega
      refine ⟨lo, r, ha, Int.le_refl _, by omega, _, _, _, _, _, hld, _, _, changeRight_spec h cf cv cp a2 c2 s1 okp.2.2, bs_b (fun e7 => ?_) (fun e => ⟨congrArg _ (tr_false fun H => of_trn e (out H).1), rfl⟩)⟩
      refine ⟨lo, r, ha, Int.le_refl _, by omega, _, ld_cells (k := 0) (m := 1) hld (by simp), bs_d (fun e8 => ?_) (fun e => ⟨congrArg _ (tr_false fun H => e (out H).2.2), rfl⟩)⟩
      refine ⟨lo, r, ha, Int.le_refl _, by omega, _, ld_cells (k := 1) (m := 1) hld (by simp), congrArg _ ?_, rfl⟩
      rw [tr_dec]
      exact tr_congr ⟨fun H => ⟨inT e1, of_tr e2, hch.2 ⟨of_tr e7, H⟩, .inr (.inl ⟨hk, by omega, e4, h5, by omega, fun c hc => by rw [hat] at hc; cases hc; exact e8⟩)⟩, fun H => (out H).2.1⟩
    · have := mt ba_nil.2 e5
      exact ⟨congrArg _ (tr_false fun H => by unfold SayOk InR at *; omega), rfl⟩
  · refine bs_d (fun e3 => ?_) (fun e3 => ⟨congrArg _ (tr_false fun H => by unfold SayOk InR at *; omega), rfl⟩)
    refine ⟨_, _, specLeader _ _ hv0, rfl, bs_d (fun e4 => bs_d (fun e5 => bs_d (fun e6 => ?_) (fun e6 => ?_)) (fun e5 => ⟨congrArg _ (tr_false fun H => by unfold SayOk InR at *; omega), rfl⟩)) (fun e4 => ⟨congrArg _ (tr_false fun H => by unfold SayOk InR at *; omega), rfl⟩)⟩
    · have h6 := ba_nil.1 e6
      refine ⟨_, _, changes_spec _ v cs a c h1 ok, congrArg _ (tr_congr ⟨fun H => ⟨inT e1, of_tr e2, H.1, .inr (.inr ⟨hk, by omega, e4, e5, h6, H.2⟩)⟩, fun H => ⟨H.2.2.1, ?_⟩⟩), rfl⟩
      unfold SayOk InR at *; omega
    · have := mt ba_nil.2 e6
      exact ⟨congrArg _ (tr_false fun H => by unfold SayOk InR at *; omega), rfl⟩
theorem sizeChange_spec (h : AHeap) (a : Option Addr) (n c : Nat) : ACall Tryz.prog 124 [.slice a n c] h (.int .i64 n) h := by
  refine acall_out (acall_vc (fun _ => false) (fun _ => []) (fun _ => .none) mixed Tryz.func124 rfl rfl rfl (Nat.le_of_ble_eq_true rfl) (by (refine vc_mp (by kernel_rfl : (Q4l True) = _) ?_; delta Q4l); simp only [and_self]) ?_)
  (refine vc_mp (by kernel_rfl : (Q52 (↑n : Int) = Q52 (↑n : Int) ∧ h = h) = _) ?_; delta Q52)
  exact ⟨rfl, rfl⟩
def Q64 (a b c d : Int) (e : Q6b) (f : Q6a) (g : Q6d) (h : Nat) := [Q52 a, Q52 b, Q52 c, Q52 d, Value.string e, Q5l f g h]
def Q65 (a : Q6d) := Q52 (Q5m a) = Q52 (Q5m a)
def Q66 (a : Int) (b : Value) (c : AHeap) (d : Bool) (e : AHeap) (f : Prop) (g h i : Int) (j : Q6b) (k : Q6d) := Q60 87 [Q52 a, b] c d e f g h a i j k c
def Q67 (a : Int) (b : AHeap) (c : Int) (d : AHeap) := ACall Tryz.prog 96 [Q52 a] b (Q52 c) d
theorem isSay_spec (h : AHeap) (k f v q : Int) (op : ByteArray) (cs : List changeSh.T) (a : Option Addr) (c : Nat) (h1 : Sl h changeSh cs (.slice a cs.length c)) (ok : (Sh.sl changeSh).ok cs) :
    ACall Tryz.prog 68 [.agg #[.int .i64 k, .int .i64 f, .int .i64 v, .int .i64 q, .string op, .slice a cs.length c]] h (.bool (tr (SayOk k f v q op cs))) h := by
  have n1 : cs.length ≤ 9223372036854775807 := ok.1
  refine acall_out (acall_vc (fun _ => false) (fun r => match r with | 6 => [(0, 1, []), (1, 3, []), (2, 0, []), (3, 0, []), (4, 0, []), (6, 0, []), (5, 1, []), (7, 1, []), (8, 0, []), (9, 0, []), (10, 0, []), (11, 0, []), (12, 0, []), (13, 0, []), (14, 0, []), (16, 0, []), (17, 0, []), (21, 0, []), (15, 1, []), (18, 0, []), (19, 0, []), (20, 1, []), (22, 1, []), (23, 0, []), (24, 0, []), (25, 0, [])] | 13 => [(0, 0, []), (1, 1, []), (2, 3, []), (3, 0, []), (4, 0, []), (5, 1, []), (6, 3, []), (7, 0, []), (8, 0, []), (9, 0, []), (10, 1, []), (11, 3, []), (12, 0, []), (13, 0, []), (14, 0, []), (15, 1, []), (16, 0, []), (17, 0, []), (18, 0, []), (19, 0, []), (20, 0, []), (21, 1, []), (22, 0, []), (23, 0, []), (24, 0, []), (26, 0, []), (25, 1, []), (27, 1, []), (28, 3, [25]), (29, 0, []), (30, 0, []), (31, 0, []), (32, 0, [])] | 15 => [(0, 0, []), (1, 1, []), (2, 3, []), (3, 0, []), (4, 0, []), (5, 1, []), (6, 0, []), (7, 0, []), (8, 0, []), (9, 0, []), (10, 1, []), (11, 0, []), (12, 0, []), (13, 0, []), (14, 0, []), (15, 1, []), (16, 0, []), (17, 0, []), (18, 0, []), (19, 0, []), (20, 0, []), (25, 0, []), (21, 1, []), (22, 0, []), (23, 0, []), (24, 1, []), (26, 1, []), (27, 0, []), (28, 0, []), (29, 0, [])] | 17 => [(0, 0, []), (1, 1, []), (2, 3, []), (3, 0, []), (4, 0, []), (6, 0, []), (5, 1, []), (7, 1, []), (8, 3, [5]), (9, 0, []), (10, 0, []), (11, 0, []), (12, 0, []), (13, 1, []), (14, 0, []), (15, 0, []), (16, 0, []), (17, 0, []), (18, 1, []), (19, 0, []), (20, 0, []), (21, 0, []), (22, 0, []), (23, 1, []), (24, 3, []), (25, 3, []), (26, 0, []), (27, 0, [])] | _ => []) (fun _ => csL v cs h (fun i => [(1, .complex .f32 0 0), (10, .slice a cs.length c), (11, .int .i64 cs.length), (12, .int .i64 i)]) [[.int .i64 k, .int .i64 f, .int .i64 v, .int .i64 q, .string op, .slice a cs.length c]] [(1, .complex .f32 0 0)]) mixed Tryz.func68 rfl rfl rfl (Nat.le_of_ble_eq_true rfl) ?_ ?_)
  · (refine vc_mp (by kernel_rfl : (Q4i (Q4l Q4j) (Q4i (∀ (i : Nat), Q5r i cs (∀ (j : Nat), Q5s j i (fun (c : Sh.T changeSh) => Q5k c c c c v) cs) → bs (decide ((↑i : Int) < Q5m cs)) (∃ (l r : Nat), Q5n a l r (↑i : Int) cs (∃ (x x_1 : Int) (a_2 : Option Addr) (n c_1 : Nat), Q5c h l r (↑i : Int) 3 = some (Q5u x x_1 a_2 n c_1) ∧ (∃ (x_2 : Bool) (h' : AHeap), Q59 92 [Q5a (Q5u x x_1 a_2 n c_1)] h x_2 h' ∧ Q4t (not x_2) h' h (∃ (j : Nat), Q5p j cs (fun (c : Sh.T changeSh) => Q5k c c c c v)) (Q4t (not (decide (x_1 = v))) h' h (∃ (j : Nat), Q5p j cs (fun (c : Sh.T changeSh) => Q5k c c c c v)) (bs (decide ((↑i : Int) > Q4p)) (∃ (l r : Nat), Q5n a l r (Q57 i) cs (∃ (x_3 : Int), Q5t h' l r (Q57 i) x_3 ∧ Q4t (decide (x_3 ≥ x)) h' h (∃ (j : Nat), Q5p j cs (fun (c : Sh.T changeSh) => Q5k c c c c v)) (∃ (j : Nat), Q5g (Q5l a cs c) (Q65 cs) (Q55 i j) (Q64 k f v q op a cs c = Q64 k f v q op a cs c) (h = h') (Q5r j cs (∀ (j_1 : Nat), Q5s j_1 j (fun (c : Sh.T changeSh) => Q5k c c c c v) cs)) (Q5q cs j < Q5q cs i) ((∀ (k : Unit), (∀ (j : Nat), Q5j j cs (fun (c : Sh.T changeSh) => Q5k c c c c v)) → (∀ (j : Nat), Q5j j cs (fun (c : Sh.T changeSh) => Q5k c c c c v))) ∧ (∀ (v_1 : Value) (h_1 : AHeap), Q4w v_1 h_1 h (∃ (j : Nat), Q5p j cs (fun (c : Sh.T changeSh) => Q5k c c c c v))))))) (∃ (j : Nat), Q5g (Q5l a cs c) (Q65 cs) (Q55 i j) (Q64 k f v q op a cs c = Q64 k f v q op a cs c) (h = h') (Q5r j cs (∀ (j_1 : Nat), Q5s j_1 j (fun (c : Sh.T changeSh) => Q5k c c c c v) cs)) (Q5q cs j < Q5q cs i) ((∀ (k : Unit), (∀ (j : Nat), Q5j j cs (fun (c : Sh.T changeSh) => Q5k c c c c v)) → (∀ (j : Nat), Q5j j cs (fun (c : Sh.T changeSh) => Q5k c c c c v))) ∧ (∀ (v_1 : Value) (h_1 : AHeap), Q4w v_1 h_1 h (∃ (j : Nat), Q5p j cs (fun (c : Sh.T changeSh) => Q5k c c c c v)))))))))) (∃ (j : Unit), Q4u = Q4u ∧ Q64 k f v q op a cs c = Q64 k f v q op a cs c ∧ h = h ∧ (∀ (j : Nat), Q5j j cs (fun (c : Sh.T changeSh) => Q5k c c c c v)))) True Q4j (Q4k True ∧ True)) (Q4i (Q4i True True True True) Q4j True (Q4k Q4j)) Q4j) = _) ?_; delta Q4i Q4j Q4k Q4l Q4p Q4r Q4s Q4t Q4u Q4v Q4w Q52 Q54 Q55 Q57 Q59 Q5a Q5c Q5g Q5i Q5j Q5k Q5l Q5m Q5n Q5p Q5q Q5r Q5s Q5t Q5u Q64 Q65)
    simp only [true_and, and_true]
    rintro (i : Nat) ⟨hi, hall⟩
    refine bs_d (fun hlt => ?_) (fun hge => ⟨(), fun j hj => hall j (by omega)⟩)
    have hio : i < cs.length := by omega
    obtain ⟨⟨cf, cv, cp⟩, hat⟩ : ∃ y : Int × Int × List proofSh.T, cs[i]? = some y := ⟨_, List.getElem?_eq_getElem hio⟩
    obtain ⟨lo, r, row, ha, _, hrd, hld⟩ := h1.elem hat
    obtain ⟨v1, rfl, s1⟩ := rd_change.1 hrd
    dsimp only at hld s1
    obtain ⟨a2, c2, rfl⟩ := s1.isSlice
    have okp := ok.2 (cf, cv, cp) (List.mem_of_getElem? hat)
    refine ⟨lo, r, ha, Int.natCast_nonneg _, hlt, _, _, _, _, _, hld, _, _, isChange_spec h cf cv cp a2 c2 s1 okp.2.2, bs_nb (fun e => ⟨rfl, i, hio, fun H => of_trn e (H.out hat).1.1⟩) (fun e1 => ?_)⟩
    refine bs_dn (fun e => ⟨rfl, i, hio, fun H => e (H.out hat).1.2⟩) (fun e2 => bs_d (fun hpos => ?_) (fun hpos => ?_))
    · rw [wrap_pred (i := i) (by omega) (by omega)]
      obtain ⟨⟨yf, yr⟩, hat2⟩ : ∃ y : Int × Int × List proofSh.T, cs[i - 1]? = some y := ⟨_, List.getElem?_eq_getElem (by omega)⟩
      obtain ⟨lo', r', row', ha', _, hrd', hld'⟩ := h1.elem hat2
      obtain ⟨v2, rfl, _⟩ := rd_change.1 hrd'
      dsimp only at hld'
      refine ⟨lo', r', ha', Int.natCast_nonneg _, by omega, _, ld_cells (k := 0) (m := 1) hld' (by simp), bs_d (fun e => ⟨rfl, i, hio, fun H => ?_⟩) (fun e3 => ?_)⟩
      · have h2 : yf < cf := (H.out hat).2 (yf, yr) (by omega) hat2
        omega
      · exact ⟨i + 1, by rw [wrap_i64 (by omega)]; rfl, rfl, ⟨by omega, upto_step hall (.mk1 hat ⟨of_tr e1, e2⟩ hat2 (by show yf < cf; omega))⟩, by omega, fun _ h => h, fun _ _ h => h⟩
    · exact ⟨i + 1, by rw [wrap_i64 (by omega)]; rfl, rfl, ⟨by omega, upto_step hall (.mk0 hat ⟨of_tr e1, e2⟩ (by omega))⟩, by omega, fun _ h => h, fun _ _ h => h⟩
  (refine vc_mp (by kernel_rfl : (∃ (x : Bool) (h' : AHeap), Q59 86 [Q52 f] h x h' ∧ bs (not x) (Q5v k f v q op cs (h' = h)) (∃ (i : Nat), Q5g (Q5l a cs c) (Q65 cs) (Q5f i) (Q64 k f v q op a cs c = Q64 k f v q op a cs c) (h = h') (Q5r i cs (∀ (j : Nat), Q5s j i (fun (c : Sh.T changeSh) => Q5k c c c c v) cs)) (∀ (j : Unit), (∀ (j : Nat), Q5j j cs (fun (c : Sh.T changeSh) => Q5k c c c c v)) → bs (decide (k = Q54)) (∃ (x : Bool) (h' : AHeap), Q66 v (Q52 Q4p) h x h' (∃ (x : Bool) (h'_1 : AHeap), Q60 123 [Q52 q] h' x h'_1 (∃ (x : Bool) (h' : AHeap), Q61 56 op h'_1 x h' (decide (Q5m cs = Q4p)) (Q62 (decide (k = Q54)) k f v q op cs h' h (∃ (x : Int) (h'_2 : AHeap), Q63 (Q67 v h' x h'_2) f (decide (f = x)) k v q op cs h'_2 h)) k f v q cs h) k f v q op cs h) k f q op cs) (bs (decide (k = 2)) (∃ (x : Bool) (h' : AHeap), Q66 v (Q52 Q4p) h x h' (∃ (x : Bool) (h'_1 : AHeap), Q60 123 [Q52 q] h' x h'_1 (∃ (x : Bool) (h' : AHeap), Q61 56 op h'_1 x h' (decide (Q5m cs = Q4p)) (Q62 (decide (k = Q54)) k f v q op cs h' h (∃ (x : Int) (h'_2 : AHeap), Q63 (Q67 v h' x h'_2) f (decide (f = x)) k v q op cs h'_2 h)) k f v q cs h) k f v q op cs h) k f q op cs) (bs (decide (k = 3)) (∃ (x : Bool) (h' : AHeap), Q66 v (Q52 Q4p) h x h' (∃ (x : Bool) (h'_1 : AHeap), Q60 123 [Q52 q] h' x h'_1 (∃ (x : Bool) (h' : AHeap), Q61 56 op h'_1 x h' (decide (Q5m cs = Q4p)) (Q62 (decide (k = Q54)) k f v q op cs h' h (∃ (x : Int) (h'_2 : AHeap), Q63 (Q67 v h' x h'_2) f (decide (f = x)) k v q op cs h'_2 h)) k f v q cs h) k f v q op cs h) k f q op cs) (bs (decide (k = 4)) (∃ (x : Bool) (h' : AHeap), Q66 v (Q52 Q54) h x h' (Q5w (decide (q = Q4p)) (decide (op = Q5y)) (bs (decide (Q5m cs = Q54)) (∃ (l r : Nat), Q5n a l r Q4p cs (∃ (x : Int), Q5t h' l r Q4p x ∧ Q5x (decide (x = f)) k f v q op cs ∧ h' = h)) (Q5v k f v q op cs (h' = h))) k f v q op cs h' h) k f q op cs) (bs (decide (k = 5)) (∃ (x : Bool) (h' : AHeap), Q66 v (Q52 Q54) h x h' (∃ (x : Int) (h'_1 : AHeap), Q67 v h' x h'_1 ∧ Q52 f = Q52 f ∧ Q5w (decide (f = x)) (decide (q = Q4p)) (bs (decide (op = Q5y)) (∃ (x : Int) (h' : AHeap), ACall Tryz.prog 124 [Q5l a cs c] h'_1 (Q52 x) h' ∧ (∃ (x_1 : Bool) (h'_2 : AHeap), Q59 88 [Q52 x, Q52 3, Q52 4] h' x_1 h'_2 ∧ Q5x x_1 k f v q op cs ∧ h'_2 = h)) (Q5v k f v q op cs (h'_1 = h))) k f v q op cs h'_1 h) k f q op cs) (Q5v k f v q op cs (h = h))))))) (∀ (v_1 : Value) (h_1 : AHeap), Q4s v_1 h_1 h (∃ (j : Nat), Q5p j cs (fun (c : Sh.T changeSh) => Q5k c c c c v)) → v_1 = Q5d (SayOk k f v q op cs) ∧ h_1 = h))) = _) ?_; delta Q4p Q4r Q4s Q4u Q4v Q52 Q54 Q59 Q5c Q5d Q5f Q5g Q5i Q5j Q5k Q5l Q5m Q5n Q5p Q5r Q5s Q5t Q5v Q5w Q5x Q5y Q60 Q61 Q62 Q63 Q64 Q65 Q66 Q67)
  refine ⟨_, _, isReplica_spec _ _, bs_nb (fun e => ⟨congrArg _ (tr_false fun H => inF e H.1), rfl⟩) (fun e1 => ?_)⟩
  refine ⟨(0 : Nat), rfl, rfl, rfl, rfl, rfl, rfl, ⟨Nat.zero_le _, fun j hj => absurd hj (Nat.not_lt_zero _)⟩, fun _ hcc => ?_, fun v h1 ⟨e1, e2, j, hj, hn⟩ => ⟨e1.trans (congrArg _ (tr_false fun H => hn (H.2.2.1 j hj))), e2⟩⟩
  refine bs_d (fun hk => ?_) (fun hk1 => bs_d (fun hk => ?_) (fun hk2 => bs_d (fun hk => ?_) (fun hk3 => ?_)))
  iterate 3
    have hk' : InR 1 3 k := by unfold InR; omega
    refine ⟨_, _, isView_spec _ _ _, bs_b (fun e2 => ?_) (fun e => ⟨congrArg _ (tr_false fun H => by have e' := of_trn e; unfold SayOk InR at *; omega), rfl⟩)⟩
    refine ⟨_, _, isSeq_spec _ _, bs_b (fun e3 => ?_) (fun e => ⟨congrArg _ (tr_false fun H => by have e' := of_trn e; unfold SayOk InR at *; omega), rfl⟩)⟩
    refine ⟨_, _, isOp_spec _ _, bs_b (fun e4 => ?_) (fun e => ⟨congrArg _ (tr_false fun H => by have e' := of_trn e; unfold SayOk InR at *; omega), rfl⟩)⟩
    refine bs_d (fun e5 => ?_) (fun e5 => ⟨congrArg _ (tr_false fun H => by unfold SayOk InR at *; omega), rfl⟩)
    have hcs : cs = [] := List.eq_nil_of_length_eq_zero (by omega)
    have hcc : ChgsOk v cs := by rw [hcs]; exact Asc.nil
    have hv0 : 0 ≤ v := (of_tr e2).1
    refine bs_dn (fun e6 => ⟨congrArg _ (tr_true ⟨inT e1, of_tr e2, hcc, .inl ⟨hk', of_tr e3, of_tr e4, by omega, fun h => absurd h e6⟩⟩), rfl⟩) (fun e6 => ⟨_, _, leader_spec _ _ hv0, rfl, congrArg _ ?_, rfl⟩)
    rw [tr_dec]
    exact tr_congr ⟨fun h => ⟨inT e1, of_tr e2, hcc, .inl ⟨hk', of_tr e3, of_tr e4, by omega, fun _ => h⟩⟩, fun H => by unfold SayOk InR at *; omega⟩
  refine bs_d (fun hk => ?_) (fun hk4 => bs_d (fun hk => ?_) (fun hk5 => ⟨congrArg _ (tr_false fun H => by unfold SayOk InR at *; omega), rfl⟩))
  · refine ⟨_, _, isView_spec _ _ _, bs_b (fun e2 => ?_) (fun e => ⟨congrArg _ (tr_false fun H => by have e' := of_trn e; unfold SayOk InR at *; omega), rfl⟩)⟩
    have e2' := of_tr e2
    refine bs_d (fun e4 => bs_d (fun e5 => bs_d (fun e6 => ?_) (fun e6 => ⟨congrArg _ (tr_false fun H => by unfold SayOk InR at *; omega), rfl⟩)) (fun e5 => ?_)) (fun e4 => ⟨congrArg _ (tr_false fun H => by unfold SayOk InR at *; omega), rfl⟩)
    · obtain ⟨⟨cf, cv, cp⟩, hat⟩ : ∃ y : Int × Int × List proofSh.T, cs[0]? = some y := ⟨_, List.getElem?_eq_getElem (by omega)⟩
      obtain ⟨lo, r, row, ha, _, hrd, hld⟩ := h1.elem hat
      obtain ⟨v1, rfl, s1⟩ := rd_change.1 hrd
      dsimp only at hld s1
      have h5 := ba_nil.1 e5
      refine ⟨lo, r, ha, Int.le_refl _, by omega, _, ld_cells (k := 0) (m := 1) hld (by simp), congrArg _ ?_, rfl⟩
      rw [tr_dec]
      refine tr_congr ⟨fun H => ⟨inT e1, ⟨by have := e2'.1; omega, e2'.2⟩, hcc, .inr (.inl ⟨hk, e2'.1, e4, h5, by omega, fun c hc => ?_⟩)⟩, fun H => ?_⟩
      · rw [hat] at hc; cases hc; exact H
      · rcases H.2.2.2 with H | H | H
        · unfold InR at *; omega
        · exact H.2.2.2.2.2 _ hat
        · omega
    · have := mt ba_nil.2 e5
      exact ⟨congrArg _ (tr_false fun H => by unfold SayOk InR at *; omega), rfl⟩
  · refine ⟨_, _, isView_spec _ _ _, bs_b (fun e2 => ?_) (fun e => ⟨congrArg _ (tr_false fun H => by have e' := of_trn e; unfold SayOk InR at *; omega), rfl⟩)⟩
    have e2' := of_tr e2
    have hl4 := ChgsOk.len hcc
    refine ⟨_, _, leader_spec _ _ (by have := e2'.1; omega), rfl, bs_d (fun e4 => bs_d (fun e5 => bs_d (fun e6 => ?_) (fun e6 => ?_)) (fun e5 => ⟨congrArg _ (tr_false fun H => by unfold SayOk InR at *; omega), rfl⟩)) (fun e4 => ⟨congrArg _ (tr_false fun H => by unfold SayOk InR at *; omega), rfl⟩)⟩
    · have h6 := ba_nil.1 e6
      refine ⟨_, _, sizeChange_spec _ _ _ _, _, _, within_spec _ _ _ _, congrArg _ ?_, rfl⟩
      rw [inr_tr]
      refine tr_congr ⟨fun H => ⟨inT e1, ⟨by have := e2'.1; omega, e2'.2⟩, hcc, .inr (.inr ⟨hk, e2'.1, e4, e5, h6, by have := H.1; omega⟩)⟩, fun H => ?_⟩
      unfold SayOk InR at *; omega
    · have := mt ba_nil.2 e6
      exact ⟨congrArg _ (tr_false fun H => by unfold SayOk InR at *; omega), rfl⟩
end Go.Proofs.YtpgfjadjhliohaaGreat
