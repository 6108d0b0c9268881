/- U5, W6. -/
import Derived.Test.YtpgfjadjhliohaaGreatV17U4
import Derived.Test.YtpgfjadjhliohaaGreatV17W4
section
namespace Go.Proofs.YtpgfjadjhliohaaGreat
open Go.Abs Go.Dat
set_option maxRecDepth 100000
set_option maxHeartbeats 8000000
def Qaq := True ∧ True ∧ True
noncomputable def Qar (a : Prop) := Value.bool (tr a)
def Qas := Value.bool false
def Qat (a : Bool) (b : Prop) (c d e f : Int) (g : ByteArray) (h : List (Sh.T changeSh)) (i : Prop) := bs a b (Qas = Qar (NoSay c d e f g h) ∧ i)
def Qau := (0 : Int)
def Qav (a : List (Sh.T changeSh)) := (↑(List.length a) : Int)
theorem isZeroSay_spec (h : AHeap) (k f v q : Int) (op : ByteArray) (cs : List changeSh.T) (a : Option Addr) (c : Nat) :
    ACall Tryz.prog 94 [.agg #[.int .i64 k, .int .i64 f, .int .i64 v, .int .i64 q, .string op, .slice a cs.length c]] h (.bool (tr (NoSay k f v q op cs))) h := by
  refine acall_out (acall_vc (fun _ => false) (fun _ => []) (fun _ => .none) mixed Tryz.func94 rfl rfl rfl (Nat.le_of_ble_eq_true rfl) (by (refine vc_mp (by kernel_rfl : (Qaq) = _) ?_; delta Qaq); simp only [and_self]) ?_)
  (refine vc_mp (by kernel_rfl : (Qat (decide (k = Qau)) (Qat (decide (f = Qau)) (Qat (decide (v = Qau)) (Qat (decide (q = Qau)) (Qat (decide (op = ByteArray.mk (Array.mk List.nil))) (Value.bool (decide (Qav cs = Qau)) = Qar (NoSay k f v q op cs) ∧ h = h) k f v q op cs (h = h)) k f v q op cs (h = h)) k f v q op cs (h = h)) k f v q op cs (h = h)) k f v q op cs (h = h)) = _) ?_; delta Qar Qas Qat Qau Qav)
  repeat' first | refine bs_d (fun _ => ?_) (fun _ => ?_)
  all_goals refine ⟨congrArg _ ?_, rfl⟩
  all_goals first
    | (refine tr_false fun H => ?_; have := @ba_nil op; unfold NoSay at H; simp_all; done)
    | (rw [tr_dec]; refine tr_congr ?_; have := @ba_nil op; unfold NoSay; constructor <;> intro H <;> simp_all <;> omega)
def Qaw (a : FuncId) (b : List Value) (c : AHeap) (d : Bool) (e : AHeap) := ACall Tryz.prog a b c (Value.bool d) e
def Qax (a : Option Addr) (b : List (Sh.T changeSh)) (c : Nat) := Value.slice a (List.length b) c
def Qay (a : Int) := Value.int IntKind.i64 a
def Qaz (a b c d : Int) (e : ByteArray) (f : Option Addr) (g : List (Sh.T changeSh)) (h : Nat) := Value.agg (Array.mk [Qay a, Qay b, Qay c, Qay d, Value.string e, Qax f g h])
theorem implNewRight_spec (h : AHeap) (k f v q : Int) (op : ByteArray) (cs : List changeSh.T) (a : Option Addr) (c : Nat) (h1 : Sl h changeSh cs (.slice a cs.length c)) (ok : (Sh.sl changeSh).ok cs) :
    ACall Tryz.prog 95 [.agg #[.int .i64 k, .int .i64 f, .int .i64 v, .int .i64 q, .string op, .slice a cs.length c]] h (.bool (tr (k = 5 ∧ SayOk k f v q op cs))) h := by
  refine acall_out (acall_vc (fun _ => false) (fun _ => []) (fun _ => .none) mixed Tryz.func95 rfl rfl rfl (Nat.le_of_ble_eq_true rfl) (by (refine vc_mp (by kernel_rfl : (Qaq) = _) ?_; delta Qaq); simp only [and_self]) ?_)
  (refine vc_mp (by kernel_rfl : (bs (decide (k = 5)) (∃ (x : Bool) (h' : AHeap), Qaw 68 [Qaz k f v q op a cs c] h x h' ∧ Value.bool x = Qar (k = 5 ∧ SayOk k f v q op cs) ∧ h' = h) (Qas = Qar (k = 5 ∧ SayOk k f v q op cs) ∧ h = h)) = _) ?_; delta Qar Qas Qaw Qax Qay Qaz)
  refine bs_d (fun e => ⟨_, _, isSay_spec h k f v q op cs a c h1 ok, congrArg _ (tr_congr ⟨fun H => ⟨e, H⟩, fun H => H.2⟩), rfl⟩) (fun e => ⟨congrArg _ (tr_false fun H => e H.1), rfl⟩)
def Qb0 (a : ByteArray) := ByteArray.size a ≤ 120
theorem isReplicaRight1_spec (h : AHeap) (t : ByteArray) : ACall Tryz.prog 91 [.string t] h (.bool (tr (¬ t.size ≤ 120))) h := by
  refine acall_out (acall_vc (fun _ => false) (fun _ => []) (fun _ => .none) mixed Tryz.func91 rfl rfl rfl (Nat.le_of_ble_eq_true rfl) (by (refine vc_mp (by kernel_rfl : (Qaq) = _) ?_; delta Qaq); simp only [and_self]) ?_)
  (refine vc_mp (by kernel_rfl : (∃ (x : Bool) (h' : AHeap), Qaw 56 [Value.string t] h x h' ∧ Value.bool (not x) = Qar (Not (Qb0 t)) ∧ h' = h) = _) ?_; delta Qar Qaw Qb0)
  refine ⟨_, _, isOp_spec h t, congrArg _ ?_, rfl⟩
  by_cases e : t.size ≤ 120
  · rw [← tr_true e]; exact tr_false (fun H => H e)
  · rw [← tr_false e]; exact tr_true e
def cloL : Value := .func (.func 91) #[] #[]
def ixlL (a : Option Addr) (n c : Nat) (h : AHeap) (xs : List Sh.str.T) : LSpec where
  ι := Nat
  κ := Unit
  I := fun i => i ≤ n ∧ ∀ (j : Nat) (t : ByteArray), j < i → xs[j]? = some t → t.size ≤ 120
  μ := fun i => n - i
  head := fun i => ⟨[(0, .slice a n c), (1, cloL), (7, .int .i64 n), (8, .int .i64 i)], [], h⟩
  post := fun _ => ⟨[], [], h⟩
  R := fun _ _ => ∀ t ∈ xs, ByteArray.size t ≤ 120
  ret := fun _ v h' => h' = h ∧ ∃ r : Int, v = .int .i64 r ∧ 0 ≤ r ∧ ∃ t ∈ xs, ¬ ByteArray.size t ≤ 120
def Qb1 (a b c d : Prop) := a ∧ b ∧ c ∧ d
def Qb2 (a b c d e : Prop) := a ∧ b ∧ c ∧ d ∧ e
def Qb3 (a : List (Sh.T Sh.str)) (b : Sh.T Sh.str) (c : ByteArray) := Membership.mem a b → Qb0 c
def Qb4 (a b : Int) := Qay a = Qay b
def Qb5 (a : Int) (b : Nat) := Qb4 a (↑b : Int)
def Qb6 (a : Int) (b : Nat) := Qb5 (IntKind.wrap IntKind.i64 (a + 1)) b
def Qb7 (a : List (Sh.T Sh.str)) := (↑(List.length a) : Int)
def Qb8 : Array Value := Array.mk List.nil
def Qb9 : Value := Value.func (Fn.func 91) Qb8 Qb8
def Qba (a : Option Addr) (b : List (Sh.T Sh.str)) (c : Nat) := Value.slice a (List.length b) c
def Qbb := (1 : Nat)
theorem indexLog_spec (h : AHeap) (a : Option Addr) (c : Nat) (xs : List Sh.str.T) (hx : Sl h Sh.str xs (.slice a xs.length c)) (hn : xs.length ≤ 9223372036854775807) :
    ∃ r h', ACall Tryz.prog 134 [.slice a xs.length c, cloL] h r h' ∧ h' = h ∧ ∃ i : Int, r = .int .i64 i ∧ (0 ≤ i ↔ ¬ ∀ t ∈ xs, ByteArray.size t ≤ 120) := by
  refine acall_q fun Q HQ => ?_
  refine acall_vc (fun _ => false) (fun _ => []) (fun _ => ixlL a xs.length c h xs) mixed Tryz.func134 rfl rfl rfl (Nat.le_of_ble_eq_true rfl) ?_ ?_
  · (refine vc_mp (by kernel_rfl : (Qb1 True (Qb2 True (∀ (i : Nat), i ≤ List.length xs ∧ (∀ (j : Nat) (t : ByteArray), j < i → getElem? xs j = some t → Qb0 t) → bs (decide ((↑i : Int) < Qb7 xs)) (∃ (l r : Nat), Qb1 (a = some (Addr.mk l r (some Qbb))) (Qau ≤ (↑i : Int)) ((↑i : Int) < Qb7 xs) (∃ (x : ByteArray), AHeap.ld h l (r + Int.toNat (↑i : Int)) 0 Qbb = some [Value.string x] ∧ (∃ (x_1 : Bool) (h' : AHeap), Qaw 91 [Value.string x] h x_1 h' ∧ bs x_1 (h' = h ∧ (∃ (r : Int), Qb4 (↑i : Int) r ∧ Qau ≤ r ∧ (∃ (t : Sh.T Sh.str), Membership.mem xs t ∧ Not (Qb0 t)))) (∃ (j : Nat), Qb2 (Qba a xs c = Qba a xs c) (Qb9 = Qb9) (Qb5 (Qb7 xs) (List.length xs)) (Qb6 (↑i : Int) j) (Qb2 (h = h') (j ≤ List.length xs ∧ (∀ (j_1 : Nat) (t : ByteArray), j_1 < j → getElem? xs j_1 = some t → Qb0 t)) (List.length xs - j < List.length xs - i) (∀ (k : Unit), (∀ (t : Sh.T Sh.str), Qb3 xs t t) → (∀ (t : Sh.T Sh.str), Qb3 xs t t)) (∀ (v : Value) (h_1 : AHeap), h_1 = h ∧ (∃ (r : Int), v = Qay r ∧ Qau ≤ r ∧ (∃ (t : Sh.T Sh.str), Membership.mem xs t ∧ Not (Qb0 t))) → h_1 = h ∧ (∃ (r : Int), v = Qay r ∧ Qau ≤ r ∧ (∃ (t : Sh.T Sh.str), Membership.mem xs t ∧ Not (Qb0 t))))))))) (∃ (j : Unit), h = h ∧ (∀ (t : Sh.T Sh.str), Qb3 xs t t))) True (True ∧ True) (Qb1 True True (True ∧ True) True ∧ True)) True True) = _) ?_; delta Qau Qaw Qay Qb0 Qb1 Qb2 Qb3 Qb4 Qb5 Qb6 Qb7 Qb8 Qb9 Qba Qbb)
    simp only [true_and, and_true]
    rintro (i : Nat) ⟨hi, hall⟩
    refine bs_d (fun hlt => ?_) (fun hge => ⟨(), fun t ht => ?_⟩)
    · obtain ⟨t, hat⟩ : ∃ y : ByteArray, xs[i]? = some y := ⟨_, List.getElem?_eq_getElem (by omega)⟩
      obtain ⟨l, r, row, ha, _, hrd, hld⟩ := hx.elem hat
      obtain rfl : row = [.string t] := hrd
      refine ⟨l, r, ha, Int.natCast_nonneg _, hlt, _, hld, _, _, isReplicaRight1_spec h t, bs_b (fun e => ⟨rfl, _, rfl, Int.natCast_nonneg _, t, List.mem_of_getElem? hat, of_tr e⟩) (fun e => ?_)⟩
      refine ⟨i + 1, by rw [wrap_i64 (by omega)]; rfl, rfl, ⟨by omega, fun j t' hj hj2 => ?_⟩, by omega, fun _ h => h, fun _ _ h => h⟩
      rcases Nat.lt_succ_iff_lt_or_eq.1 hj with hj | rfl
      · exact hall j t' hj hj2
      · rw [hat] at hj2; cases hj2; exact Classical.not_not.1 (of_trn e)
    · obtain ⟨j, hj⟩ := List.mem_iff_getElem?.1 ht
      have := (List.getElem?_eq_some_iff.1 hj).1
      exact hall j t (by omega) hj
  (refine vc_mp (by kernel_rfl : (∃ (i : Nat), Qb2 (Qba a xs c = Qba a xs c) (Qb9 = Qb9) (Qb5 (Qb7 xs) (List.length xs)) (Qb5 Qau i) (Qb1 (h = h) (i ≤ List.length xs ∧ (∀ (j : Nat) (t : ByteArray), j < i → getElem? xs j = some t → Qb0 t)) (∀ (j : Unit), (∀ (t : Sh.T Sh.str), Qb3 xs t t) → Q (Qay (-1)) h) (∀ (v : Value) (h_1 : AHeap), h_1 = h ∧ (∃ (r : Int), v = Qay r ∧ Qau ≤ r ∧ (∃ (t : Sh.T Sh.str), Membership.mem xs t ∧ Not (Qb0 t))) → Q v h_1))) = _) ?_; delta Qau Qay Qb0 Qb1 Qb2 Qb3 Qb4 Qb5 Qb7 Qb8 Qb9 Qba)
  exact ⟨(0 : Nat), rfl, rfl, rfl, rfl, rfl, ⟨Nat.zero_le _, fun j t hj => absurd hj (Nat.not_lt_zero _)⟩, fun _ hall => HQ _ _ ⟨rfl, _, rfl, fun h => absurd h (by decide), fun h => absurd hall h⟩, fun _ _ ⟨e, r, e1, e2, t, ht, hn⟩ => HQ _ _ ⟨e, r, e1, fun _ hall => hn (hall t ht), fun _ => e2⟩⟩
theorem containsLog_spec (h : AHeap) (a : Option Addr) (c : Nat) (xs : List Sh.str.T) (hx : Sl h Sh.str xs (.slice a xs.length c)) (hn : xs.length ≤ 9223372036854775807) :
    ACall Tryz.prog 90 [.slice a xs.length c, cloL] h (.bool (tr (¬ ∀ t ∈ xs, ByteArray.size t ≤ 120))) h := by
  obtain ⟨_, h0, hA, e0, r, rfl, hr⟩ := indexLog_spec h a c xs hx hn
  rw [e0] at hA
  clear e0
  refine acall_out (acall_vc (fun _ => false) (fun _ => []) (fun _ => .none) mixed Tryz.func90 rfl rfl rfl (Nat.le_of_ble_eq_true rfl) (by (refine vc_mp (by kernel_rfl : (Qaq) = _) ?_; delta Qaq); simp only [and_self]) ?_)
  (refine vc_mp (by kernel_rfl : (∃ (x : Int) (h' : AHeap), ACall Tryz.prog 134 [Qba a xs c, Qb9] h (Qay x) h' ∧ Value.bool (decide (x ≥ Qau)) = Qar (Not (∀ (t : Sh.T Sh.str), Qb3 xs t t)) ∧ h' = h) = _) ?_; delta Qar Qau Qay Qb0 Qb3 Qb8 Qb9 Qba)
  refine ⟨_, _, hA, congrArg _ ?_, rfl⟩
  rw [tr_dec]
  exact tr_congr hr
def irL (cg : List changeSh.T) (C : List Value) (a2 : Option Addr) (c2 : Nat) (h : AHeap) : LSpec where
  ι := Nat × AHeap
  κ := AHeap
  I := fun i => i.1 ≤ cg.length ∧ h.Le i.2 ∧ i.2.wf ∧ ∀ j, j < i.1 → CgAt cg j
  μ := fun i => cg.length - i.1
  head := fun i => ⟨[(1, .complex .f32 0 0), (54, .slice a2 cg.length c2), (55, .int .i64 cg.length), (56, .int .i64 i.1)], [C], i.2⟩
  post := fun j => ⟨[(1, .complex .f32 0 0)], [C], j⟩
  R := fun _ j => h.Le j ∧ j.wf ∧ ∀ j, j < cg.length → CgAt cg j
  ret := fun _ v h' => v = .bool false ∧ h.Le h' ∧ h'.wf ∧ ∃ j, j < cg.length ∧ ¬ CgAt cg j
def Qbc (a : Nat) (b c : List (Sh.T changeSh)) (d : Nat) := a < List.length b → CgAt c d
def Qbd (a : Option Addr) (b : List (Sh.T voteSh)) (c : Nat) := Value.slice a (List.length b) c
def Qbe (a b : Int) (c : Bool) (d : Int) (e : Option Addr) (f : List (Sh.T voteSh)) (g : Nat) (h : Option Addr) (i : List (Sh.T changeSh)) (j : Nat) (k l m n : Int) (o : ByteArray) (p : Option Addr) (q : List (Sh.T changeSh)) (r : Nat) (s : Option Addr) (t : List (Sh.T Sh.str)) (u : Nat) := [Qay a, Qay b, Value.bool c, Qay d, Qbd e f g, Qax h i j, Qay k, Qay l, Qay m, Qay n, Value.string o, Qax p q r, Qba s t u]
def Qbf := Value.complex FloatKind.f32 0 0
def Qbg (a : FuncId) (b : List Value) (c : AHeap) (d : Bool) (e : AHeap) (f : Bool) (g h : Prop) := Qaw a b c d e ∧ bs (not f) g h
def Qbh (a : Prop) (b c d : AHeap) (e : Prop) := Qb1 a (AHeap.Le b c) (AHeap.wf d) e
def Qbi (a : Nat) (b c : List (Sh.T changeSh)) (d : Nat) := a < List.length b ∧ Not (CgAt c d)
def Qbj (a b c : AHeap) (d : Prop) := AHeap.Le a b ∧ AHeap.wf c ∧ d
def Qbk (a : Prop) (b : AHeap) (c d : Nat × AHeap) (e : Prop) := Qbh a b (Prod.snd c) (Prod.snd d) e
def Qbl (a : Nat × AHeap) := (↑(Prod.fst a) : Int)
def Qbm (a : Array Value) : Value := Value.func (Fn.func 91) Qb8 a
theorem isReplicaRight_spec (h : AHeap) (hw : h.wf) (id view top k f v q : Int) (chg : Bool) (vs : List voteSh.T) (cg : List changeSh.T) (op : ByteArray) (cs : List changeSh.T) (log : List Sh.str.T) (a1 : Option Addr) (c1 : Nat) (a2 : Option Addr) (c2 : Nat) (a3 : Option Addr) (c3 : Nat) (a4 : Option Addr) (c4 : Nat)
    (h1 : Sl h voteSh vs (.slice a1 vs.length c1)) (h2 : Sl h changeSh cg (.slice a2 cg.length c2)) (h3 : Sl h changeSh cs (.slice a3 cs.length c3)) (h4 : Sl h Sh.str log (.slice a4 log.length c4))
    (ok : replicaSh.ok (id, view, chg, top, vs, cg, (k, f, v, q, op, cs), log)) :
    ∃ x h', ACall Tryz.prog 39 [.agg #[.int .i64 id, .int .i64 view, .bool chg, .int .i64 top, .slice a1 vs.length c1, .slice a2 cg.length c2, .int .i64 k, .int .i64 f, .int .i64 v, .int .i64 q, .string op, .slice a3 cs.length c3, .slice a4 log.length c4]] h x h' ∧
      h.Le h' ∧ h'.wf ∧ x = .bool (tr (RepOk (id, view, chg, top, vs, cg, (k, f, v, q, op, cs), log))) := by
  have n2 : cg.length ≤ 9223372036854775807 := ok.2.2.2.2.2.1.1
  have n4 : log.length ≤ 9223372036854775807 := ok.2.2.2.2.2.2.2.1
  obtain ⟨_, g, A1, le1, w1, rfl⟩ := areVotes_spec h hw vs a1 c1 h1 ok.2.2.2.2.1
  refine acall_q fun Q HQ => ?_
  refine acall_vc (fun _ => false) (fun _ => []) (fun _ => irL cg [.int .i64 id, .int .i64 view, .bool chg, .int .i64 top, .slice a1 vs.length c1, .slice a2 cg.length c2, .int .i64 k, .int .i64 f, .int .i64 v, .int .i64 q, .string op, .slice a3 cs.length c3, .slice a4 log.length c4] a2 c2 g) mixed Tryz.func39 rfl rfl rfl (Nat.le_of_ble_eq_true rfl) ?_ ?_
  · (refine vc_mp (by kernel_rfl : (Qb2 True (True ∧ (True ∧ True) ∧ True) (Qb2 True (∀ (i : Nat × AHeap), Qbk (Prod.fst i ≤ List.length cg) g i i (∀ (j : Nat), j < Prod.fst i → CgAt cg j) → bs (decide (Qbl i < Qav cg)) (∃ (l r : Nat), Qb1 (a2 = some (Addr.mk l r (some 3))) (Qau ≤ Qbl i) (Qbl i < Qav cg) (∃ (x x_1 : Int) (a : Option Addr) (n c : Nat), AHeap.ld (Prod.snd i) l (r + Int.toNat (Qbl i)) 0 3 = some [Qay x, Qay x_1, Value.slice a n c] ∧ (∃ (x_2 : Bool) (h' : AHeap), Qbg 92 [Value.agg (Array.mk [Qay x, Qay x_1, Value.slice a n c])] (Prod.snd i) x_2 h' x_2 (Qbh (Qas = Qas) g h' h' (∃ (j : Nat), Qbi j cg cg j)) (∃ (x_3 : Int) (h'_1 : AHeap), ACall Tryz.prog 93 [Qax a2 cg c2, Value.agg (Array.mk [Qay x, Qay x_1, Value.slice a n c])] h' (Qay x_3) h'_1 ∧ bs (decide (x_3 < Qbl i)) (Qbh (Qas = Qas) g h'_1 h'_1 (∃ (j : Nat), Qbi j cg cg j)) (∃ (j : Nat × AHeap), Qb2 (Qbf = Qbf) (Qax a2 cg c2 = Qax a2 cg c2) (Qb5 (Qav cg) (List.length cg)) (Qb6 (Qbl i) (Prod.fst j)) (Qb2 (Qbe id view chg top a1 vs c1 a2 cg c2 k f v q op a3 cs c3 a4 log c4 = Qbe id view chg top a1 vs c1 a2 cg c2 k f v q op a3 cs c3 a4 log c4) (Prod.snd j = h'_1) (Qbk (Prod.fst j ≤ List.length cg) g j j (∀ (j_1 : Nat), j_1 < Prod.fst j → CgAt cg j_1)) (List.length cg - Prod.fst j < List.length cg - Prod.fst i) ((∀ (k : AHeap), Qbj g k k (∀ (j : Nat), Qbc j cg cg j) → Qbj g k k (∀ (j : Nat), Qbc j cg cg j)) ∧ (∀ (v : Value) (h : AHeap), Qbh (v = Qas) g h h (∃ (j : Nat), Qbi j cg cg j) → Qbh (v = Qas) g h h (∃ (j : Nat), Qbi j cg cg j))))))))) (∃ (j : AHeap), Qb2 (Qbf = Qbf) (Qbe id view chg top a1 vs c1 a2 cg c2 k f v q op a3 cs c3 a4 log c4 = Qbe id view chg top a1 vs c1 a2 cg c2 k f v q op a3 cs c3 a4 log c4) (j = Prod.snd i) (AHeap.Le g j) (AHeap.wf j ∧ (∀ (j : Nat), Qbc j cg cg j)))) True (True ∧ True) (Qb1 True True (True ∧ True) True ∧ True)) True True) = _) ?_; delta Qas Qau Qav Qaw Qax Qay Qb1 Qb2 Qb4 Qb5 Qb6 Qba Qbc Qbd Qbe Qbf Qbg Qbh Qbi Qbj Qbk Qbl)
    simp only [true_and, and_true]
    rintro ⟨i, u⟩ ⟨hi, le, wf, hall⟩
    dsimp only at *
    refine bs_d (fun hlt => ?_) (fun hge => ⟨u, rfl, le, wf, fun j hj => hall j (by omega)⟩)
    obtain ⟨⟨f', v', p⟩, hat⟩ : ∃ y : Int × Int × List proofSh.T, cg[i]? = some y := ⟨_, List.getElem?_eq_getElem (by omega)⟩
    obtain ⟨l, r, row, ha, _, hrd, hld⟩ := ((h2.mono le1).mono le).elem hat
    obtain ⟨v1, rfl, s1⟩ := rd_change.1 hrd
    obtain ⟨a5, c5, rfl⟩ := s1.isSlice
    dsimp only at hld s1
    have okp := ok.2.2.2.2.2.1.2 (f', v', p) (List.mem_of_getElem? hat)
    obtain ⟨_, g2, A2, le2, w2, m, rfl, hm⟩ := changeIndex_spec u wf a2 c2 cg f' v' a5 p.length c5 ((h2.mono le1).mono le) n2
    have self : ChAt cg f' v' i := ⟨_, hat, rfl, rfl⟩
    refine ⟨l, r, ha, Int.natCast_nonneg _, hlt, _, _, _, _, _, hld, _, _, isChange_spec u f' v' p a5 c5 s1 okp.2.2, bs_nb (fun e => ⟨le, wf, i, by omega, fun H => of_trn e (H.out hat).1⟩) (fun e1 => ?_)⟩
    refine ⟨_, _, A2, bs_d (fun e => ⟨le.trans le2, w2, i, by omega, fun H => (hm.low (by omega) self).1 e (H.out hat).2⟩) (fun e2 => ?_)⟩
    have hno : ∀ j, j < i → ¬ ChAt cg f' v' j := Classical.byContradiction fun hn => e2 ((hm.low (by omega) self).2 hn)
    exact ⟨(i + 1, g2), by rw [wrap_i64 (by omega)]; rfl, rfl, ⟨by dsimp only; omega, le.trans le2, w2, upto_step hall ⟨_, hat, of_tr e1, hno⟩⟩, by dsimp only; omega, fun _ h => h, fun _ _ h => h⟩
  have F : ∀ u, h.Le u → u.wf → ¬ RepOk (id, view, chg, top, vs, cg, (k, f, v, q, op, cs), log) → Q (.bool false) u := fun u le w H => HQ _ _ ⟨le, w, congrArg _ (tr_false H)⟩
  (refine vc_mp (by kernel_rfl : (∃ (x : Bool) (h' : AHeap), Qbg 86 [Qay id] h x h' x (Q Qas h') (∃ (x : Bool) (h'_1 : AHeap), Qbg 87 [Qay view, Qay Qau] h' x h'_1 x (Q Qas h'_1) (bs chg (bs (decide (view = Qau)) (Q Qas h'_1) (∃ (x : Bool) (h' : AHeap), Qbg 88 [Qay top, Qay Qau, Qay 6] h'_1 x h' x (Q Qas h') (∃ (x : Bool) (h'_2 : AHeap), Qbg 89 [Qbd a1 vs c1] h' x h'_2 x (Q Qas h'_2) (bs (decide (Qav cg > 40)) (Q Qas h'_2) (bs (decide (Qb7 log > 6)) (Q Qas h'_2) (∃ (x : Bool) (h' : AHeap), Qaw 90 [Qba a4 log c4, Qbm Qb8] h'_2 x h' ∧ bs x (Q Qas h') (∃ (i : Nat × AHeap), Qb2 (Qbf = Qbf) (Qax a2 cg c2 = Qax a2 cg c2) (Qb5 (Qav cg) (List.length cg)) (Qb5 Qau (Prod.fst i)) (Qb2 (Qbe id view chg top a1 vs c1 a2 cg c2 k f v q op a3 cs c3 a4 log c4 = Qbe id view chg top a1 vs c1 a2 cg c2 k f v q op a3 cs c3 a4 log c4) (Prod.snd i = h') (Qbk (Prod.fst i ≤ List.length cg) g i i (∀ (j : Nat), j < Prod.fst i → CgAt cg j)) (∀ (j : AHeap), Qbj g j j (∀ (j : Nat), Qbc j cg cg j) → (∃ (x : Bool) (h' : AHeap), Qaw 94 [Qaz k f v q op a3 cs c3] j x h' ∧ bs x (Q (Value.bool true) h') (∃ (x : Bool) (h'_3 : AHeap), Qaw 95 [Qaz k f v q op a3 cs c3] h' x h'_3 ∧ Q (Value.bool x) h'_3))) (∀ (v : Value) (h : AHeap), Qbh (v = Qas) g h h (∃ (j : Nat), Qbi j cg cg j) → Q v h))))))))) (∃ (x : Bool) (h' : AHeap), Qbg 88 [Qay top, Qay Qau, Qay 6] h'_1 x h' x (Q Qas h') (∃ (x : Bool) (h'_2 : AHeap), Qbg 89 [Qbd a1 vs c1] h' x h'_2 x (Q Qas h'_2) (bs (decide (Qav cg > 40)) (Q Qas h'_2) (bs (decide (Qb7 log > 6)) (Q Qas h'_2) (∃ (x : Bool) (h' : AHeap), Qaw 90 [Qba a4 log c4, Qbm Qb8] h'_2 x h' ∧ bs x (Q Qas h') (∃ (i : Nat × AHeap), Qb2 (Qbf = Qbf) (Qax a2 cg c2 = Qax a2 cg c2) (Qb5 (Qav cg) (List.length cg)) (Qb5 Qau (Prod.fst i)) (Qb2 (Qbe id view chg top a1 vs c1 a2 cg c2 k f v q op a3 cs c3 a4 log c4 = Qbe id view chg top a1 vs c1 a2 cg c2 k f v q op a3 cs c3 a4 log c4) (Prod.snd i = h') (Qbk (Prod.fst i ≤ List.length cg) g i i (∀ (j : Nat), j < Prod.fst i → CgAt cg j)) (∀ (j : AHeap), Qbj g j j (∀ (j : Nat), Qbc j cg cg j) → (∃ (x : Bool) (h' : AHeap), Qaw 94 [Qaz k f v q op a3 cs c3] j x h' ∧ bs x (Q (Value.bool true) h') (∃ (x : Bool) (h'_3 : AHeap), Qaw 95 [Qaz k f v q op a3 cs c3] h' x h'_3 ∧ Q (Value.bool x) h'_3))) (∀ (v : Value) (h : AHeap), Qbh (v = Qas) g h h (∃ (j : Nat), Qbi j cg cg j) → Q v h))))))))))) = _) ?_; delta Qas Qau Qav Qaw Qax Qay Qaz Qb1 Qb2 Qb4 Qb5 Qb7 Qb8 Qba Qbc Qbd Qbe Qbf Qbg Qbh Qbi Qbj Qbk Qbm)
  refine ⟨_, _, isReplica_spec _ _, bs_nb (fun e => F _ (.refl _) hw fun H => inF e H.1) (fun e1 => ⟨_, _, isView_spec _ _ _, bs_nb (fun e => F _ (.refl _) hw fun H => of_trn e H.2.1) (fun e2 => ?_)⟩)⟩
  have e2' := of_tr e2
  refine bs_of (fun hc => bs_d (fun hv => F _ (.refl _) hw fun H => H.2.2.1 ⟨hc, hv⟩) (fun hv => ?_)) (fun hc => ?_)
  all_goals
    have hcv : ¬ (chg = true ∧ view = 0) := by first | (intro H; omega) | (intro H; rw [hc] at H; cases H.1)
    refine ⟨_, _, within_spec _ _ _ _, bs_nb (fun e => F _ (.refl _) hw fun H => inF e H.2.2.2.1) (fun e3 => ?_)⟩
    refine ⟨_, _, A1, bs_nb (fun e => F _ le1 w1 fun H => of_trn e H.2.2.2.2.1) (fun e4 => ?_)⟩
    refine bs_d (fun e => F _ le1 w1 fun H => by have := H.2.2.2.2.2.1.1; dsimp only at this; omega) (fun e5 => ?_)
    refine bs_d (fun e => F _ le1 w1 fun H => by have : log.length ≤ 6 := H.2.2.2.2.2.2.2.1; omega) (fun e8 => ?_)
    refine ⟨_, _, containsLog_spec g a4 c4 log (h4.mono le1) n4, bs_b (fun e => F _ le1 w1 fun H => of_tr e H.2.2.2.2.2.2.2.2) (fun e9 => ?_)⟩
    have hl : ∀ t ∈ log, ByteArray.size t ≤ 120 := Classical.not_not.1 (of_trn e9)
    refine ⟨(0, g), rfl, rfl, rfl, rfl, rfl, rfl, ⟨Nat.zero_le _, .refl _, w1, fun j hj => absurd hj (Nat.not_lt_zero _)⟩, fun u ⟨lu, wu, hall⟩ => ?_, fun _ u ⟨x1, lu, wu, j, hj, hn⟩ => HQ _ _ ⟨le1.trans lu, wu, x1.trans (congrArg _ (tr_false fun H => hn (H.2.2.2.2.2.1.2 j hj)))⟩⟩
    have hcg : CgsOk cg := ⟨by omega, hall⟩
    have hlog : LogOk log := ⟨by omega, hl⟩
    refine ⟨_, _, isZeroSay_spec u k f v q op cs a3 c3, bs_b (fun e6 => HQ _ _ ⟨le1.trans lu, wu, congrArg _ (tr_true ⟨inT e1, e2', hcv, inT e3, of_tr e4, hcg, .inl (of_tr e6), hlog⟩)⟩) (fun e6 => ?_)⟩
    refine ⟨_, _, implNewRight_spec u k f v q op cs a3 c3 ((h3.mono le1).mono lu) ok.2.2.2.2.2.2.1.2.2.2.2.2, HQ _ _ ⟨le1.trans lu, wu, congrArg _ (tr_congr ⟨fun H => ⟨inT e1, e2', hcv, inT e3, of_tr e4, hcg, .inr H, hlog⟩, fun H => H.2.2.2.2.2.2.1.resolve_left (of_trn e6)⟩)⟩⟩
abbrev repV (r : replicaSh.T) (v1 v2 v3 v4 : Value) : Value := .agg #[.int .i64 r.1, .int .i64 r.2.1, .bool r.2.2.1, .int .i64 r.2.2.2.1, v1, v2, .int .i64 r.2.2.2.2.2.2.1.1, .int .i64 r.2.2.2.2.2.2.1.2.1, .int .i64 r.2.2.2.2.2.2.1.2.2.1, .int .i64 r.2.2.2.2.2.2.1.2.2.2.1, .string r.2.2.2.2.2.2.1.2.2.2.2.1, v3, v4]
end Go.Proofs.YtpgfjadjhliohaaGreat
end
section
namespace Go.Dat
open Go.Abs
structure OX (α : Type) where
  a : Option Addr
  c : Nat
  xs : List α
  ids : List Nat
  g : AHeap
def OXok (s : Sh) (h : AHeap) (o : OX s.T) : Prop := SoB s h o.g o.a o.xs.length o.c o.xs o.ids
theorem OXok.nil {s : Sh} {h : AHeap} (hw : h.wf) : OXok s h ⟨none, 0, [], [], h⟩ := SoB.nil hw
theorem OXok.grow {s : Sh} {h : AHeap} {o : OX s.T} (B : OXok s h o) {g' : AHeap} (le : o.g.Le g') (wf : g'.wf) : OXok s h ⟨o.a, o.c, o.xs, o.ids, g'⟩ := SoB.grow B le wf
theorem rowsV_push {g : AHeap} {z : Nat} {cs : List Value} {c : Nat} : rowsV (g.push ⟨[cs], z, true⟩) (.slice (some ⟨g.n, 0, some z⟩) 1 c) = some [cs] := by
  show (g.push ⟨[cs], z, true⟩).rowsOf (.slice (some ⟨g.n, 0, some z⟩) 1 c) = some [cs]
  rw [get_rows AHeap.get_push_eq (by simp)]; rfl
theorem OXok.app {s : Sh} {h : AHeap} {o : OX s.T} (B : OXok s h o) {x : s.T} {cs : List Value} {js : List Nat} (rn : s.rn o.g x cs js) (fj : Fresh h.n o.g.n js) (d : ∀ z ∈ o.ids, z ∉ js) :
    ∃ o' : OX s.T, (o.g.push ⟨[cs], s.cells, true⟩).app (.slice o.a o.xs.length o.c) [cs] s.cells = some (.slice o'.a o'.xs.length o'.c, o'.g) ∧ OXok s h o' ∧ o'.xs = o.xs ++ [x] ∧ o.g.n ≤ o'.g.n ∧ (∀ z w, z ∉ o.ids → o.g.get z = some w → o'.g.get z = some w) ∧ ∀ z ∈ o'.ids, z = o.g.n + 1 ∨ z ∈ o.ids ∨ z ∈ js := by
  have lp := AHeap.Le.push B.wf ⟨[cs], s.cells, true⟩
  obtain ⟨l, h', ids', e, B', hn, hi, hk⟩ := (SoB.grow B lp (B.wf.push _)).app (rn.le lp) (fj.widen (Nat.le_refl _) lp.n) d
  have el : (o.xs ++ [x]).length = o.xs.length + 1 := by simp
  refine ⟨⟨some ⟨l, 0, some s.cells⟩, 0, o.xs ++ [x], ids', h'⟩, by dsimp only; rw [el]; exact e, ?_, rfl, Nat.le_trans lp.n hn, fun z w hz hw => hk z w hz (lp.get z w hw), fun z hz => hi z hz⟩
  show SoB s h h' (some ⟨l, 0, some s.cells⟩) (o.xs ++ [x]).length 0 (o.xs ++ [x]) ids'
  rw [el]; exact B'
theorem OXok.sn {s : Sh} {h : AHeap} {o : OX s.T} (B : OXok s h o) : Sn o.g s o.xs (.slice o.a o.xs.length o.c) o.ids := SoB.sn B
end Go.Dat
namespace Go.Proofs.YtpgfjadjhliohaaGreat
open Go.Abs Go.Dat
set_option maxRecDepth 100000
set_option maxHeartbeats 8000000
abbrev CastP (l : List voteSh.T) (k v q : Int) (op : ByteArray) : Int → Prop := fun f => (k, v, q, op, f) ∈ l
def svL (h : AHeap) (a : Option Addr) (c : Nat) (l : List voteSh.T) (k v q : Int) (op : ByteArray) : Nat → LSpec
  | 0 => {
    ι := Nat × OX Int
    κ := OX Int
    I := fun i => i.1 ≤ 4 ∧ OXok Sh.int h i.2 ∧ i.2.xs = upP (CastP l k v q op) i.1
    μ := fun i => 4 - i.1
    head := fun i => ⟨[(0, .slice a l.length c), (1, .int .i64 k), (2, .int .i64 v), (3, .int .i64 q), (4, .string op), (11, .slice i.2.a i.2.xs.length i.2.c), (12, .int .i64 i.1)], [], i.2.g⟩
    post := fun o => ⟨[(11, .slice o.a o.xs.length o.c)], [], o.g⟩
    R := fun _ o => OXok Sh.int h o ∧ o.xs = votersM l k v q op
    ret := fun _ _ _ => False }
  | _ => {
    ι := Nat × Nat × OX Int
    κ := Nat × OX Int
    I := fun i => i.1 < 4 ∧ i.2.1 ≤ l.length ∧ OXok Sh.int h i.2.2 ∧ i.2.2.xs = upP (CastP l k v q op) i.1 ++ (bif tr (∃ j, j < i.2.1 ∧ l[j]? = some (k, v, q, op, (i.1 : Int))) then [(i.1 : Int)] else [])
    μ := fun i => l.length - i.2.1
    head := fun i => ⟨[(0, .slice a l.length c), (1, .int .i64 k), (2, .int .i64 v), (3, .int .i64 q), (4, .string op), (11, .slice i.2.2.a i.2.2.xs.length i.2.2.c), (12, .int .i64 i.1), (13, .int .i64 i.2.1)], [], i.2.2.g⟩
    post := fun i => ⟨[(0, .slice a l.length c), (1, .int .i64 k), (2, .int .i64 v), (3, .int .i64 q), (4, .string op), (11, .slice i.2.a i.2.xs.length i.2.c), (12, .int .i64 i.1)], [], i.2.g⟩
    R := fun i o => o.1 = i.1 ∧ OXok Sh.int h o.2 ∧ o.2.xs = upP (CastP l k v q op) (i.1 + 1)
    ret := fun _ _ _ => False }
def Qbn (a : Prop) (b c d e f g : Int) (h i : ByteArray) (j k l m : Prop) := Qb2 a (Qb4 b c) (Qb4 d e) (Qb4 f g) (Qb2 (Value.string h = Value.string i) j k l m)
def Qbo (a : Nat × OX Int) (b : Nat × Nat × OX Int) (c : AHeap) (d : Nat × OX (Sh.T Sh.int)) (e : Nat × OX Int) (f : Int → Prop) (g : Nat × Nat × OX Int) := Prod.fst a = Prod.fst b ∧ OXok Sh.int c (Prod.snd d) ∧ OX.xs (Prod.snd e) = upP f (Prod.fst g + Qbb)
def Qbp (a : List (Sh.T voteSh)) (b c d : Int) (e : ByteArray) (f : Int) := Membership.mem a (Prod.mk b (Prod.mk c (Prod.mk d (Prod.mk e f))))
def Qbq (a : Nat × Nat × OX Int) := Prod.snd (Prod.snd a)
def Qbr (a : Nat × Nat × OX Int) := OX.g (Qbq a)
def Qbs (a : Nat × OX Int) := OX.g (Prod.snd a)
def Qbt (a : Nat × Nat × OX Int) := (↑(Prod.fst a) : Int)
def Qbu (a : OX Int) (b : List Int) (c : OX Int) := Value.slice (OX.a a) (List.length b) (OX.c c)
def Qbv (a b c : Nat × OX Int) := Qbu (Prod.snd a) (OX.xs (Prod.snd b)) (Prod.snd c)
def Qbw (a b c : Nat × Nat × OX Int) := Qbu (Qbq a) (OX.xs (Qbq b)) (Qbq c)
def Qbx (a : Nat × Nat × OX Int) := Prod.fst (Prod.snd a)
def Qby (a : Nat × Nat × OX Int) := (↑(Qbx a) : Int)
def Qbz (a : Option Addr) (b : List (Sh.T voteSh)) (c : Nat) (d : Option Addr) (e : List (Sh.T voteSh)) (f : Nat) (g h i j k l : Int) (m n : ByteArray) (o : Prop) (p q r s : Nat × Nat × OX Int) (t u v w x : Prop) := Qbn (Qbd a b c = Qbd d e f) g h i j k l m n o (Qb4 (Qbt p) (Qbt q)) (Qb6 (Qby r) (Qbx s)) (Qb2 t u v w x)
def Qc0 (a : List (Sh.T voteSh)) (b : Nat × Nat × OX Int) (c : List (Sh.T voteSh)) (d : Nat × Nat × OX Int) := List.length a - Qbx b < List.length c - Qbx d
def Qc1 (a b : Nat × Nat × OX Int) (c : List (Sh.T voteSh)) (d : AHeap) (e : Nat × Nat × OX (Sh.T Sh.int)) (f : Nat × Nat × OX Int) (g : Int → Prop) (h : Nat × Nat × OX Int) (i : Prop) (j : List Int) := Qb1 (Prod.fst a < 4) (Qbx b ≤ List.length c) (OXok Sh.int d (Prod.snd (Prod.snd e))) (OX.xs (Qbq f) = Append.append (upP g (Prod.fst h)) (cond (tr i) j List.nil))
def Qc2 (a : Nat) (b : Nat × Nat × OX Int) (c : List (Sh.T voteSh)) (d : Nat) (e f g : Int) (h : ByteArray) (i : Nat × Nat × OX Int) := a < Qbx b ∧ getElem? c d = some (Prod.mk e (Prod.mk f (Prod.mk g (Prod.mk h (Qbt i)))))
def Qc3 (a b : Nat × Nat × OX Int) := Qbr a = Qbr b
def Qc4 (a : Prop) (b : AHeap) (c : Nat × OX (Sh.T Sh.int)) (d : Nat × OX Int) (e : Int → Prop) (f : Nat × OX Int) := a ∧ OXok Sh.int b (Prod.snd c) ∧ OX.xs (Prod.snd d) = upP e (Prod.fst f)
theorem l11Voters_spec (h : AHeap) (hw : h.wf) (a : Option Addr) (c : Nat) (l : List voteSh.T) (k v q : Int) (op : ByteArray) (hx : Sl h voteSh l (.slice a l.length c)) (H : VotsOk l) :
    ∃ r h', ACall Tryz.prog 144 [.slice a l.length c, .int .i64 k, .int .i64 v, .int .i64 q, .string op] h r h' ∧ ∃ o : OX Int, r = .slice o.a o.xs.length o.c ∧ h' = o.g ∧ OXok Sh.int h o ∧ o.xs = votersM l k v q op := by
  have n1 := H.1
  refine acall_q fun Q HQ => ?_
  refine acall_vc (fun _ => false) (fun _ => []) (svL h a c l k v q op) mixed Tryz.func144 rfl rfl rfl (Nat.le_of_ble_eq_true rfl) ?_ ?_
  · (refine vc_mp (by kernel_rfl : (Qb2 True True (Qb2 True (∀ (i : Nat × OX Int), Qc4 (Prod.fst i ≤ 4) h i i (fun (f : Int) => Qbp l k v q op f) i → bs (decide ((↑(Prod.fst i) : Int) < 4)) (∃ (i_1 : Nat × Nat × OX Int), Qbn (Qbd a l c = Qbd a l c) k k v v q q op op (Qbv i i i = Qbw i_1 i_1 i_1) (Qb4 (↑(Prod.fst i) : Int) (Qbt i_1)) (Qb5 Qau (Qbx i_1)) (Qb1 (Qbr i_1 = Qbs i) (Qc1 i_1 i_1 l h i_1 i_1 (fun (f : Int) => Qbp l k v q op f) i_1 (∃ (j : Nat), Qc2 j i_1 l j k v q op i_1) [Qbt i_1]) (∀ (j : Nat × OX Int), Qbo j i_1 h j j (fun (f : Int) => Qbp l k v q op f) i_1 → (∃ (j_1 : Nat × OX Int), Qbn (Qbd a l c = Qbd a l c) k k v v q q op op (Qbv j j j = Qbv j_1 j_1 j_1) (Qb6 (↑(Prod.fst j) : Int) (Prod.fst j_1)) (Qbs j_1 = Qbs j) (Qb1 (Qc4 (Prod.fst j_1 ≤ 4) h j_1 j_1 (fun (f : Int) => Qbp l k v q op f) j_1) (4 - Prod.fst j_1 < 4 - Prod.fst i) (∀ (k_1 : OX Int), OXok Sh.int h k_1 ∧ OX.xs k_1 = votersM l k v q op → OXok Sh.int h k_1 ∧ OX.xs k_1 = votersM l k v q op) (∀ (v : Value) (h : AHeap), False → False)))) (∀ (v : Value) (h : AHeap), False → False))) (∃ (j : OX Int), Qb1 (Qbv i i i = Qbu j (OX.xs j) j) (OX.g j = Qbs i) (OXok Sh.int h j) (OX.xs j = votersM l k v q op))) Qaq (Qb2 True (∀ (i : Nat × Nat × OX Int), Qc1 i i l h i i (fun (f : Int) => Qbp l k v q op f) i (∃ (j : Nat), Qc2 j i l j k v q op i) [Qbt i] → bs (decide (Qby i < (↑(List.length l) : Int))) (∃ (l_1 r : Nat), Qb1 (a = some (Addr.mk l_1 r (some 5))) (Qau ≤ Qby i) (Qby i < (↑(List.length l) : Int)) (∃ (x x_1 x_2 : Int) (x_3 : ByteArray) (x_4 : Int), AHeap.ld (Qbr i) l_1 (r + Int.toNat (Qby i)) 0 5 = some [Qay x, Qay x_1, Qay x_2, Value.string x_3, Qay x_4] ∧ bs (decide (x_4 = Qbt i)) (bs (decide (x = k)) (bs (decide (x_1 = v)) (bs (decide (x_2 = q)) (bs (decide (x_3 = op)) (∃ (xs : List (List Value)), Qb1 (rowsV (AHeap.push (Qbr i) (AObj.mk [[Qay (Qbt i)]] Qbb true)) (Value.slice (some (Addr.mk (AHeap.n (Qbr i)) 0 (some Qbb))) Qbb 2) = some xs) (List.all xs (fun (row : List Value) =>
  decide (List.length row = (1 : Nat)) &&
    List.all row fun (v : Value) =>
      match v with
      | Value.agg cells => false
      | Value.tuple cells => false
      | Value.complex k re im => false
      | Value.chan r => false
      | x => true) = true) ((List.length (OX.xs (Qbq i)) + List.length xs) * 8 ≤ 140737488355328) (∃ (a_2 : Option Addr) (n c_1 : Nat) (h' : AHeap), AHeap.app (AHeap.push (Qbr i) (AObj.mk [[Qay (Qbt i)]] Qbb true)) (Qbw i i i) xs Qbb = some (Prod.mk (Value.slice a_2 n c_1) h') ∧ (∃ (j : Nat × Nat × OX Int), Qbz a l c a l c k k v v q q op op (Value.slice a_2 n c_1 = Qbw j j j) i j i j (Qbr j = h') (Qc1 j j l h j j (fun (f : Int) => Qbp l k v q op f) j (∃ (j_1 : Nat), Qc2 j_1 j l j_1 k v q op j) [Qbt j]) (Qc0 l j l i) (∀ (k_1 : Nat × OX Int), Qbo k_1 j h k_1 k_1 (fun (f : Int) => Qbp l k v q op f) j → Qbo k_1 i h k_1 k_1 (fun (f : Int) => Qbp l k v q op f) i) (∀ (v : Value) (h : AHeap), False → False)))) (∃ (j : Nat × Nat × OX Int), Qbz a l c a l c k k v v q q op op (Qbw i i i = Qbw j j j) i j i j (Qc3 j i) (Qc1 j j l h j j (fun (f : Int) => Qbp l k v q op f) j (∃ (j_1 : Nat), Qc2 j_1 j l j_1 k v q op j) [Qbt j]) (Qc0 l j l i) (∀ (k_1 : Nat × OX Int), Qbo k_1 j h k_1 k_1 (fun (f : Int) => Qbp l k v q op f) j → Qbo k_1 i h k_1 k_1 (fun (f : Int) => Qbp l k v q op f) i) (∀ (v : Value) (h : AHeap), False → False))) (∃ (j : Nat × Nat × OX Int), Qbz a l c a l c k k v v q q op op (Qbw i i i = Qbw j j j) i j i j (Qc3 j i) (Qc1 j j l h j j (fun (f : Int) => Qbp l k v q op f) j (∃ (j_1 : Nat), Qc2 j_1 j l j_1 k v q op j) [Qbt j]) (Qc0 l j l i) (∀ (k_1 : Nat × OX Int), Qbo k_1 j h k_1 k_1 (fun (f : Int) => Qbp l k v q op f) j → Qbo k_1 i h k_1 k_1 (fun (f : Int) => Qbp l k v q op f) i) (∀ (v : Value) (h : AHeap), False → False))) (∃ (j : Nat × Nat × OX Int), Qbz a l c a l c k k v v q q op op (Qbw i i i = Qbw j j j) i j i j (Qc3 j i) (Qc1 j j l h j j (fun (f : Int) => Qbp l k v q op f) j (∃ (j_1 : Nat), Qc2 j_1 j l j_1 k v q op j) [Qbt j]) (Qc0 l j l i) (∀ (k_1 : Nat × OX Int), Qbo k_1 j h k_1 k_1 (fun (f : Int) => Qbp l k v q op f) j → Qbo k_1 i h k_1 k_1 (fun (f : Int) => Qbp l k v q op f) i) (∀ (v : Value) (h : AHeap), False → False))) (∃ (j : Nat × Nat × OX Int), Qbz a l c a l c k k v v q q op op (Qbw i i i = Qbw j j j) i j i j (Qc3 j i) (Qc1 j j l h j j (fun (f : Int) => Qbp l k v q op f) j (∃ (j_1 : Nat), Qc2 j_1 j l j_1 k v q op j) [Qbt j]) (Qc0 l j l i) (∀ (k_1 : Nat × OX Int), Qbo k_1 j h k_1 k_1 (fun (f : Int) => Qbp l k v q op f) j → Qbo k_1 i h k_1 k_1 (fun (f : Int) => Qbp l k v q op f) i) (∀ (v : Value) (h : AHeap), False → False))) (∃ (j : Nat × Nat × OX Int), Qbz a l c a l c k k v v q q op op (Qbw i i i = Qbw j j j) i j i j (Qc3 j i) (Qc1 j j l h j j (fun (f : Int) => Qbp l k v q op f) j (∃ (j_1 : Nat), Qc2 j_1 j l j_1 k v q op j) [Qbt j]) (Qc0 l j l i) (∀ (k_1 : Nat × OX Int), Qbo k_1 j h k_1 k_1 (fun (f : Int) => Qbp l k v q op f) j → Qbo k_1 i h k_1 k_1 (fun (f : Int) => Qbp l k v q op f) i) (∀ (v : Value) (h : AHeap), False → False)))) (∃ (j : Nat × OX Int), Qbn (Qbd a l c = Qbd a l c) k k v v q q op op (Qbw i i i = Qbv j j j) (Qb5 (Qbt i) (Prod.fst j)) (Qbs j = Qbr i) (Qbo j i h j j (fun (f : Int) => Qbp l k v q op f) i))) Qaq (Qb1 True True True True) True) True) True True) = _) ?_; delta Qaq Qau Qay Qb1 Qb2 Qb4 Qb5 Qb6 Qbb Qbd Qbn Qbo Qbp Qbq Qbr Qbs Qbt Qbu Qbv Qbw Qbx Qby Qbz Qc0 Qc1 Qc2 Qc3 Qc4)
    simp only [true_and, and_true]
    refine ⟨fun ⟨f, o⟩ ⟨hf, B, hxs⟩ => ?_, fun ⟨f, i, o⟩ ⟨hf, hi, B, hxs⟩ => ?_⟩
    · dsimp only at *
      refine bs_d (fun hlt => ⟨(f, 0, o), rfl, rfl, rfl, rfl, ⟨by dsimp only; omega, Nat.zero_le _, B, ?_⟩, fun ⟨f', o'⟩ ⟨e, B', hx'⟩ => ?_, fun _ _ h => h⟩) (fun hge => ⟨o, rfl, rfl, B, by rw [hxs, show f = 4 by omega]; rfl⟩)
      · dsimp only
        rw [← tr_false (fun ⟨j, hj, _⟩ => absurd hj (Nat.not_lt_zero _))]
        exact hxs.trans (List.append_nil _).symm
      · dsimp only at *
        subst e
        exact ⟨(f' + 1, o'), rfl, by rw [wrap_i64 (by omega)]; rfl, rfl, ⟨by dsimp only; omega, B', hx'⟩, by dsimp only; omega, fun _ h => h, fun _ _ h => h⟩
    · dsimp only at *
      refine bs_d (fun hlt => ?_) (fun hge => ⟨(f, o), rfl, rfl, rfl, rfl, B, ?_⟩)
      · obtain ⟨⟨k', v', q', op', f'⟩, hat⟩ : ∃ y : Int × Int × Int × ByteArray × Int, l[i]? = some y := ⟨_, List.getElem?_eq_getElem (by omega)⟩
        obtain ⟨lo, r, row, ha, _, hrd, hld⟩ := (hx.mono B.le).elem hat
        obtain rfl := rd_vote.1 hrd
        dsimp only at hld
        have skip : ¬ (k', v', q', op', f') = (k, v, q, op, (f : Int)) → ∃ j : Nat × Nat × OX Int, Value.slice o.a o.xs.length o.c = .slice j.2.2.a j.2.2.xs.length j.2.2.c ∧ Value.int .i64 f = .int .i64 j.1 ∧ Value.int .i64 (IntKind.i64.wrap ((i : Int) + 1)) = .int .i64 j.2.1 ∧ j.2.2.g = o.g ∧
            (j.1 < 4 ∧ j.2.1 ≤ l.length ∧ OXok Sh.int h j.2.2 ∧ j.2.2.xs = Append.append (upP (fun f => (k, v, q, op, f) ∈ l) j.1) (bif tr (∃ j_1, j_1 < j.2.1 ∧ l[j_1]? = some (k, v, q, op, (j.1 : Int))) then [(j.1 : Int)] else [])) ∧ l.length - j.2.1 < l.length - i ∧
            (∀ k_1 : Nat × OX Int, k_1.1 = j.1 ∧ OXok Sh.int h k_1.2 ∧ k_1.2.xs = upP (fun f => (k, v, q, op, f) ∈ l) (j.1 + 1) → k_1.1 = f ∧ OXok Sh.int h k_1.2 ∧ k_1.2.xs = upP (fun f => (k, v, q, op, f) ∈ l) (f + 1)) ∧ ∀ (v : Value) (h : AHeap), False → False := fun hne =>
          ⟨(f, i + 1, o), rfl, rfl, by rw [wrap_i64 (by omega)]; rfl, rfl, ⟨hf, by dsimp only; omega, B, hxs.trans (congrArg (Append.append _) (congrArg (fun b => bif b then [(f : Int)] else []) (tr_congr ⟨fun ⟨j, hj, hj2⟩ => ⟨j, Nat.lt_succ_of_lt hj, hj2⟩, fun ⟨j, hj, hj2⟩ => by
            rcases Nat.lt_succ_iff_lt_or_eq.1 hj with hj | rfl
            · exact ⟨j, hj, hj2⟩
            · rw [hat] at hj2; exact absurd (Option.some.inj hj2) hne⟩)))⟩, by dsimp only; omega, fun _ h => h, fun _ _ h => h⟩
        refine ⟨lo, r, ha, Int.natCast_nonneg _, hlt, _, _, _, _, _, hld, bs_d (fun e1 => bs_d (fun e2 => bs_d (fun e3 => bs_d (fun e4 => bs_d (fun e5 => ?_) (fun e => skip (fun H => e (congrArg (·.2.2.2.1) H)))) (fun e => skip (fun H => e (congrArg (·.2.2.1) H)))) (fun e => skip (fun H => e (congrArg (·.2.1) H)))) (fun e => skip (fun H => e (congrArg (·.1) H)))) (fun e => skip (fun H => e (congrArg (·.2.2.2.2) H)))⟩
        obtain rfl := e1; obtain rfl := e2; obtain rfl := e3; obtain rfl := e4; obtain rfl := e5
        have hno : ¬ ∃ j, j < i ∧ l[j]? = some (k', v', q', op', (f : Int)) := fun ⟨j, hj, hj2⟩ => by have := vots_at H hj2 hat; omega
        rw [← tr_false hno] at hxs
        obtain ⟨o', e6, B', hx', hn', _, _⟩ := B.app (x := (f : Int)) (cs := [.int .i64 f]) (js := []) ⟨rfl, rfl⟩ .nil (by simp)
        have hlen : o.xs.length ≤ 4 := by
          have h1 : o.xs = upP (fun f => (k', v', q', op', f) ∈ l) f := hxs.trans (List.append_nil _)
          rw [h1]; exact Nat.le_trans upP_len (by omega)
        refine ⟨[[.int .i64 f]], rowsV_push, rfl, by simp only [List.length_cons, List.length_nil]; omega, _, _, _, o'.g, e6, (f, i + 1, o'), rfl, rfl, by rw [wrap_i64 (by omega)]; rfl, rfl, ⟨hf, by dsimp only; omega, B', ?_⟩, by dsimp only; omega, fun _ h => h, fun _ _ h => h⟩
        dsimp only
        rw [← tr_true (show ∃ j, j < i + 1 ∧ l[j]? = some (k', v', q', op', (f : Int)) from ⟨i, Nat.lt_succ_self _, hat⟩), hx', hxs]
        show (_ ++ []) ++ _ = _
        rw [List.append_nil]; rfl
      · dsimp only
        rw [hxs, upP]
        refine congrArg (Append.append _) (congrArg (fun b => bif b then [(f : Int)] else []) (tr_congr ⟨fun ⟨j, _, hj2⟩ => List.mem_of_getElem? hj2, fun hm => ?_⟩))
        obtain ⟨j, hj⟩ := List.mem_iff_getElem?.1 hm
        have := (List.getElem?_eq_some_iff.1 hj).1
        exact ⟨j, by omega, hj⟩
  (refine vc_mp (by kernel_rfl : (∃ (i : Nat × OX Int), Qbn (Qbd a l c = Qbd a l c) k k v v q q op op (Value.slice (some (Addr.mk (AHeap.n h) 0 (some Qbb))) 0 Qbb = Qbv i i i) (Qb5 Qau (Prod.fst i)) (Qbs i = AHeap.push h (AObj.mk List.nil Qbb true)) (Qc4 (Prod.fst i ≤ 4) h i i (fun (f : Int) => Qbp l k v q op f) i ∧ (∀ (j : OX Int), OXok Sh.int h j ∧ OX.xs j = votersM l k v q op → Q (Qbu j (OX.xs j) j) (OX.g j)) ∧ (∀ (v : Value) (h : AHeap), False → Q v h))) = _) ?_; delta Qau Qay Qb2 Qb4 Qb5 Qbb Qbd Qbn Qbp Qbs Qbu Qbv Qc4)
  have wp := hw.push ⟨[], 1, true⟩
  have B0 : OXok Sh.int h ⟨some ⟨h.n, 0, some 1⟩, 1, [], [h.n], h.push ⟨[], 1, true⟩⟩ := SoB.flat (s := Sh.int) (g := h) rfl (AHeap.Le.push hw ⟨[], 1, true⟩) wp hw (Nat.le_refl _) rfl AHeap.get_push_eq rfl (.inr rfl) (fun i y row h1 => by cases h1)
  exact ⟨(0, ⟨some ⟨h.n, 0, some 1⟩, 1, [], [h.n], h.push ⟨[], 1, true⟩⟩), rfl, rfl, rfl, rfl, rfl, rfl, rfl, rfl, ⟨by dsimp only; omega, B0, rfl⟩, fun o ⟨B, hx⟩ => HQ _ _ ⟨o, rfl, rfl, B, hx⟩, fun _ _ h => h.elim⟩
end Go.Proofs.YtpgfjadjhliohaaGreat
end
