/- U5, W6. -/
import Derived.Test.YtpgfjadjhliohaaGreatV19U4
import Derived.Test.YtpgfjadjhliohaaGreatV19W4
section
namespace Go.Proofs.YtpgfjadjhliohaaGreat
open Go.Abs Go.Dat
set_option maxRecDepth 100000
set_option maxHeartbeats 8000000
abbrev Qe3 := ByteArray
abbrev Qe4 := List (Sh.T changeSh)
abbrev Qe5 := Option Addr
abbrev Qe6 := List (Sh.T Sh.str)
abbrev Qe7 := List (Sh.T voteSh)
abbrev Qe8 := Int → Prop
def Qcl := True ∧ True ∧ True
noncomputable def Qcm (a : Prop) := Value.bool (tr a)
def Qcn := Value.bool false
def Qco (a : Bool) (b : Prop) (c d e f : Int) (g : Qe3) (h : Qe4) (i : Prop) := bs a b (Qcn = Qcm (NoSay c d e f g h) ∧ i)
def Qcp := (0 : Int)
def Qcq (a : Qe4) := (↑(List.length a) : Int)
theorem isZeroSay_spec (h : AHeap) (k f v q : Int) (op : ByteArray) (cs : List changeSh.T) (a : Option Addr) (c : Nat) :
    ACall Tryz.prog 94 [.agg #[.int .i64 k, .int .i64 f, .int .i64 v, .int .i64 q, .string op, .slice a cs.length c]] h (.bool (tr (NoSay k f v q op cs))) h := by
  refine acall_out (acall_vc (fun _ => false) (fun _ => []) (fun _ => .none) mixed Tryz.func94 rfl rfl rfl (Nat.le_of_ble_eq_true rfl) (by (refine vc_mp (by kernel_rfl : (Qcl) = _) ?_; delta Qcl); simp only [and_self]) ?_)
  (refine vc_mp (by kernel_rfl : (Qco (decide (k = Qcp)) (Qco (decide (f = Qcp)) (Qco (decide (v = Qcp)) (Qco (decide (q = Qcp)) (Qco (decide (op = ByteArray.mk (Array.mk List.nil))) (Value.bool (decide (Qcq cs = Qcp)) = Qcm (NoSay k f v q op cs) ∧ h = h) k f v q op cs (h = h)) k f v q op cs (h = h)) k f v q op cs (h = h)) k f v q op cs (h = h)) k f v q op cs (h = h)) = _) ?_; delta Qcm Qcn Qco Qcp Qcq)
  repeat' first | refine bs_d (fun _ => ?_) (fun _ => ?_)
  all_goals refine ⟨congrArg _ ?_, rfl⟩
  all_goals first
    | (refine tr_false fun H => ?_; have := @ba_nil op; unfold NoSay at H; simp_all; done)
    | (rw [tr_dec]; refine tr_congr ?_; have := @ba_nil op; unfold NoSay; constructor <;> intro H <;> simp_all <;> omega)
def Qcr (a : FuncId) (b : List Value) (c : AHeap) (d : Bool) (e : AHeap) := ACall Tryz.prog a b c (Value.bool d) e
def Qcs (a : Qe5) (b : Qe4) (c : Nat) := Value.slice a (List.length b) c
def Qct (a : Int) := Value.int IntKind.i64 a
def Qcu (a b c d : Int) (e : Qe3) (f : Qe5) (g : Qe4) (h : Nat) := Value.agg (Array.mk [Qct a, Qct b, Qct c, Qct d, Value.string e, Qcs f g h])
theorem implNewRight_spec (h : AHeap) (k f v q : Int) (op : ByteArray) (cs : List changeSh.T) (a : Option Addr) (c : Nat) (h1 : Sl h changeSh cs (.slice a cs.length c)) (ok : (Sh.sl changeSh).ok cs) :
    ACall Tryz.prog 95 [.agg #[.int .i64 k, .int .i64 f, .int .i64 v, .int .i64 q, .string op, .slice a cs.length c]] h (.bool (tr (k = 5 ∧ SayOk k f v q op cs))) h := by
  refine acall_out (acall_vc (fun _ => false) (fun _ => []) (fun _ => .none) mixed Tryz.func95 rfl rfl rfl (Nat.le_of_ble_eq_true rfl) (by (refine vc_mp (by kernel_rfl : (Qcl) = _) ?_; delta Qcl); simp only [and_self]) ?_)
  (refine vc_mp (by kernel_rfl : (bs (decide (k = 5)) (∃ (x : Bool) (h' : AHeap), Qcr 68 [Qcu k f v q op a cs c] h x h' ∧ Value.bool x = Qcm (k = 5 ∧ SayOk k f v q op cs) ∧ h' = h) (Qcn = Qcm (k = 5 ∧ SayOk k f v q op cs) ∧ h = h)) = _) ?_; delta Qcm Qcn Qcr Qcs Qct Qcu)
  refine bs_d (fun e => ⟨_, _, isSay_spec h k f v q op cs a c h1 ok, congrArg _ (tr_congr ⟨fun H => ⟨e, H⟩, fun H => H.2⟩), rfl⟩) (fun e => ⟨congrArg _ (tr_false fun H => e H.1), rfl⟩)
def Qcv (a : Qe3) := ByteArray.size a ≤ 120
theorem isReplicaRight1_spec (h : AHeap) (t : ByteArray) : ACall Tryz.prog 91 [.string t] h (.bool (tr (¬ t.size ≤ 120))) h := by
  refine acall_out (acall_vc (fun _ => false) (fun _ => []) (fun _ => .none) mixed Tryz.func91 rfl rfl rfl (Nat.le_of_ble_eq_true rfl) (by (refine vc_mp (by kernel_rfl : (Qcl) = _) ?_; delta Qcl); simp only [and_self]) ?_)
  (refine vc_mp (by kernel_rfl : (∃ (x : Bool) (h' : AHeap), Qcr 56 [Value.string t] h x h' ∧ Value.bool (not x) = Qcm (Not (Qcv t)) ∧ h' = h) = _) ?_; delta Qcm Qcr Qcv)
  refine ⟨_, _, isOp_spec h t, congrArg _ ?_, rfl⟩
  by_cases e : t.size ≤ 120
  · rw [← tr_true e]; exact tr_false (fun H => H e)
  · rw [← tr_false e]; exact tr_true e
def cloL : Value := .func (.func 91) #[] #[]
def ixlL (a : Option Addr) (n c : Nat) (h : AHeap) (xs : List Sh.str.T) : LSpec where
  ι := Nat
  κ := Unit
  I := fun i => i ≤ n ∧ ∀ (j : Nat) (t : ByteArray), j < i → xs[j]? = some t → t.size ≤ 120
  μ := fun i => n - i
  head := fun i => ⟨[(0, .slice a n c), (1, cloL), (7, .int .i64 n), (8, .int .i64 i)], [], h⟩
  post := fun _ => ⟨[], [], h⟩
  R := fun _ _ => ∀ t ∈ xs, ByteArray.size t ≤ 120
  ret := fun _ v h' => h' = h ∧ ∃ r : Int, v = .int .i64 r ∧ 0 ≤ r ∧ ∃ t ∈ xs, ¬ ByteArray.size t ≤ 120
def Qcw (a b c d : Prop) := a ∧ b ∧ c ∧ d
def Qcx (a b c d e : Prop) := a ∧ b ∧ c ∧ d ∧ e
def Qcy (a : Qe6) (b : Sh.T Sh.str) (c : Qe3) := Membership.mem a b → Qcv c
def Qcz (a : Value) (b : Int) (c : Prop) := a = Qct b ∧ Qcp ≤ b ∧ c
def Qd0 (a b : Int) := Qct a = Qct b
def Qd1 (a : Int) (b : Nat) := Qd0 a (↑b : Int)
def Qd2 (a : Int) (b : Nat) := Qd1 (IntKind.wrap IntKind.i64 (a + 1)) b
def Qd3 (a : Qe6) := (↑(List.length a) : Int)
def Qd4 (a : FuncId) := Value.func (Fn.func a) (Array.mk List.nil) (Array.mk List.nil)
def Qd5 := Qd4 91
def Qd6 (a : Qe5) (b : Qe6) (c : Nat) := Value.slice a (List.length b) c
def Qd7 := (1 : Nat)
theorem indexLog_spec (h : AHeap) (a : Option Addr) (c : Nat) (xs : List Sh.str.T) (hx : Sl h Sh.str xs (.slice a xs.length c)) (hn : xs.length ≤ 9223372036854775807) :
    ∃ r h', ACall Tryz.prog 134 [.slice a xs.length c, cloL] h r h' ∧ h' = h ∧ ∃ i : Int, r = .int .i64 i ∧ (0 ≤ i ↔ ¬ ∀ t ∈ xs, ByteArray.size t ≤ 120) := by
  refine acall_q fun Q HQ => ?_
  refine acall_vc (fun _ => false) (fun _ => []) (fun _ => ixlL a xs.length c h xs) mixed Tryz.func134 rfl rfl rfl (Nat.le_of_ble_eq_true rfl) ?_ ?_
  · (refine vc_mp (by kernel_rfl : (Qcw True (Qcx True (∀ (i : Nat), i ≤ List.length xs ∧ (∀ (j : Nat) (t : ByteArray), j < i → getElem? xs j = some t → Qcv t) → bs (decide ((↑i : Int) < Qd3 xs)) (∃ (l r : Nat), Qcw (a = some (Addr.mk l r (some Qd7))) (Qcp ≤ (↑i : Int)) ((↑i : Int) < Qd3 xs) (∃ (x : ByteArray), AHeap.ld h l (r + Int.toNat (↑i : Int)) 0 Qd7 = some [Value.string x] ∧ (∃ (x_1 : Bool) (h' : AHeap), Qcr 91 [Value.string x] h x_1 h' ∧ bs x_1 (h' = h ∧ (∃ (r : Int), Qd0 (↑i : Int) r ∧ Qcp ≤ r ∧ (∃ (t : Sh.T Sh.str), Membership.mem xs t ∧ Not (Qcv t)))) (∃ (j : Nat), Qcx (Qd6 a xs c = Qd6 a xs c) (Qd5 = Qd5) (Qd1 (Qd3 xs) (List.length xs)) (Qd2 (↑i : Int) j) (Qcx (h = h') (j ≤ List.length xs ∧ (∀ (j_1 : Nat) (t : ByteArray), j_1 < j → getElem? xs j_1 = some t → Qcv t)) (List.length xs - j < List.length xs - i) (∀ (k : Unit), (∀ (t : Sh.T Sh.str), Qcy xs t t) → (∀ (t : Sh.T Sh.str), Qcy xs t t)) (∀ (v : Value) (h_1 : AHeap), h_1 = h ∧ (∃ (r : Int), Qcz v r (∃ (t : Sh.T Sh.str), Membership.mem xs t ∧ Not (Qcv t))) → h_1 = h ∧ (∃ (r : Int), Qcz v r (∃ (t : Sh.T Sh.str), Membership.mem xs t ∧ Not (Qcv t))))))))) (∃ (j : Unit), h = h ∧ (∀ (t : Sh.T Sh.str), Qcy xs t t))) True (True ∧ True) (Qcw True True (True ∧ True) True ∧ True)) True True) = _) ?_; delta Qcp Qcr Qct Qcv Qcw Qcx Qcy Qcz Qd0 Qd1 Qd2 Qd3 Qd4 Qd5 Qd6 Qd7)
    simp only [true_and, and_true]
    rintro (i : Nat) ⟨hi, hall⟩
    refine bs_d (fun hlt => ?_) (fun hge => ⟨(), fun t ht => ?_⟩)
    · obtain ⟨t, hat⟩ : ∃ y : ByteArray, xs[i]? = some y := ⟨_, List.getElem?_eq_getElem (by omega)⟩
      obtain ⟨l, r, row, ha, _, hrd, hld⟩ := hx.elem hat
      obtain rfl : row = [.string t] := hrd
      refine ⟨l, r, ha, Int.natCast_nonneg _, hlt, _, hld, _, _, isReplicaRight1_spec h t, bs_b (fun e => ⟨rfl, _, rfl, Int.natCast_nonneg _, t, List.mem_of_getElem? hat, of_tr e⟩) (fun e => ?_)⟩
      refine ⟨i + 1, by rw [wrap_i64 (by omega)]; rfl, rfl, ⟨by omega, fun j t' hj hj2 => ?_⟩, by omega, fun _ h => h, fun _ _ h => h⟩
      rcases Nat.lt_succ_iff_lt_or_eq.1 hj with hj | rfl
      · exact hall j t' hj hj2
      · rw [hat] at hj2; cases hj2; exact Classical.not_not.1 (of_trn e)
    · obtain ⟨j, hj⟩ := List.mem_iff_getElem?.1 ht
      have := (List.getElem?_eq_some_iff.1 hj).1
      exact hall j t (by omega) hj
  (refine vc_mp (by kernel_rfl : (∃ (i : Nat), Qcx (Qd6 a xs c = Qd6 a xs c) (Qd5 = Qd5) (Qd1 (Qd3 xs) (List.length xs)) (Qd1 Qcp i) (Qcw (h = h) (i ≤ List.length xs ∧ (∀ (j : Nat) (t : ByteArray), j < i → getElem? xs j = some t → Qcv t)) (∀ (j : Unit), (∀ (t : Sh.T Sh.str), Qcy xs t t) → Q (Qct (-1)) h) (∀ (v : Value) (h_1 : AHeap), h_1 = h ∧ (∃ (r : Int), Qcz v r (∃ (t : Sh.T Sh.str), Membership.mem xs t ∧ Not (Qcv t))) → Q v h_1))) = _) ?_; delta Qcp Qct Qcv Qcw Qcx Qcy Qcz Qd0 Qd1 Qd3 Qd4 Qd5 Qd6)
  exact ⟨(0 : Nat), rfl, rfl, rfl, rfl, rfl, ⟨Nat.zero_le _, fun j t hj => absurd hj (Nat.not_lt_zero _)⟩, fun _ hall => HQ _ _ ⟨rfl, _, rfl, fun h => absurd h (by decide), fun h => absurd hall h⟩, fun _ _ ⟨e, r, e1, e2, t, ht, hn⟩ => HQ _ _ ⟨e, r, e1, fun _ hall => hn (hall t ht), fun _ => e2⟩⟩
theorem containsLog_spec (h : AHeap) (a : Option Addr) (c : Nat) (xs : List Sh.str.T) (hx : Sl h Sh.str xs (.slice a xs.length c)) (hn : xs.length ≤ 9223372036854775807) :
    ACall Tryz.prog 90 [.slice a xs.length c, cloL] h (.bool (tr (¬ ∀ t ∈ xs, ByteArray.size t ≤ 120))) h := by
  obtain ⟨_, h0, hA, e0, r, rfl, hr⟩ := indexLog_spec h a c xs hx hn
  rw [e0] at hA
  clear e0
  refine acall_out (acall_vc (fun _ => false) (fun _ => []) (fun _ => .none) mixed Tryz.func90 rfl rfl rfl (Nat.le_of_ble_eq_true rfl) (by (refine vc_mp (by kernel_rfl : (Qcl) = _) ?_; delta Qcl); simp only [and_self]) ?_)
  (refine vc_mp (by kernel_rfl : (∃ (x : Int) (h' : AHeap), ACall Tryz.prog 134 [Qd6 a xs c, Qd5] h (Qct x) h' ∧ Value.bool (decide (x ≥ Qcp)) = Qcm (Not (∀ (t : Sh.T Sh.str), Qcy xs t t)) ∧ h' = h) = _) ?_; delta Qcm Qcp Qct Qcv Qcy Qd4 Qd5 Qd6)
  refine ⟨_, _, hA, congrArg _ ?_, rfl⟩
  rw [tr_dec]
  exact tr_congr hr
def irL (cg : List changeSh.T) (C : List Value) (a2 : Option Addr) (c2 : Nat) (h : AHeap) : LSpec where
  ι := Nat × AHeap
  κ := AHeap
  I := fun i => i.1 ≤ cg.length ∧ h.Le i.2 ∧ i.2.wf ∧ ∀ j, j < i.1 → CgAt cg j
  μ := fun i => cg.length - i.1
  head := fun i => ⟨[(1, .complex .f32 0 0), (54, .slice a2 cg.length c2), (55, .int .i64 cg.length), (56, .int .i64 i.1)], [C], i.2⟩
  post := fun j => ⟨[(1, .complex .f32 0 0)], [C], j⟩
  R := fun _ j => h.Le j ∧ j.wf ∧ ∀ j, j < cg.length → CgAt cg j
  ret := fun _ v h' => v = .bool false ∧ h.Le h' ∧ h'.wf ∧ ∃ j, j < cg.length ∧ ¬ CgAt cg j
def Qd8 (a : Nat) (b : Qe4) := a < List.length b → CgAt b a
def Qd9 (a : Qe5) (b : Qe7) (c : Nat) := Value.slice a (List.length b) c
def Qda (a b : Int) (c : Bool) (d : Int) (e : Qe5) (f : Qe7) (g : Nat) (h : Qe5) (i : Qe4) (j : Nat) (k l m n : Int) (o : Qe3) (p : Qe5) (q : Qe4) (r : Nat) (s : Qe5) (t : Qe6) (u : Nat) := [Qct a, Qct b, Value.bool c, Qct d, Qd9 e f g, Qcs h i j, Qct k, Qct l, Qct m, Qct n, Value.string o, Qcs p q r, Qd6 s t u]
def Qdb := Value.complex FloatKind.f32 0 0
def Qdc (a : FuncId) (b : List Value) (c : AHeap) (d : Bool) (e : AHeap) (f g : Prop) := Qcr a b c d e ∧ bs (not d) f g
def Qdd (a : Prop) (b c : AHeap) (d : Prop) := Qcw a (AHeap.Le b c) (AHeap.wf c) d
def Qde (a b : Prop) (c : Qe4) (d e f g : Prop) (h : AHeap) (i : Nat × AHeap) (j k l : Prop) := Qcx a b (Qd1 (Qcq c) (List.length c)) d (Qcx e f (Qdd g h (Prod.snd i) j) k l)
def Qdf (a : Nat) (b : Qe4) := a < List.length b ∧ Not (CgAt b a)
def Qdg (a b : AHeap) (c : Prop) := AHeap.Le a b ∧ AHeap.wf b ∧ c
def Qdh (a : Nat × AHeap) := (↑(Prod.fst a) : Int)
theorem isReplicaRight_spec (h : AHeap) (hw : h.wf) (id view top k f v q : Int) (chg : Bool) (vs : List voteSh.T) (cg : List changeSh.T) (op : ByteArray) (cs : List changeSh.T) (log : List Sh.str.T) (a1 : Option Addr) (c1 : Nat) (a2 : Option Addr) (c2 : Nat) (a3 : Option Addr) (c3 : Nat) (a4 : Option Addr) (c4 : Nat)
    (h1 : Sl h voteSh vs (.slice a1 vs.length c1)) (h2 : Sl h changeSh cg (.slice a2 cg.length c2)) (h3 : Sl h changeSh cs (.slice a3 cs.length c3)) (h4 : Sl h Sh.str log (.slice a4 log.length c4))
    (ok : replicaSh.ok (id, view, chg, top, vs, cg, (k, f, v, q, op, cs), log)) :
    ∃ x h', ACall Tryz.prog 39 [.agg #[.int .i64 id, .int .i64 view, .bool chg, .int .i64 top, .slice a1 vs.length c1, .slice a2 cg.length c2, .int .i64 k, .int .i64 f, .int .i64 v, .int .i64 q, .string op, .slice a3 cs.length c3, .slice a4 log.length c4]] h x h' ∧
      h.Le h' ∧ h'.wf ∧ x = .bool (tr (RepOk (id, view, chg, top, vs, cg, (k, f, v, q, op, cs), log))) := by
  have n2 : cg.length ≤ 9223372036854775807 := ok.2.2.2.2.2.1.1
  have n4 : log.length ≤ 9223372036854775807 := ok.2.2.2.2.2.2.2.1
  obtain ⟨_, g, A1, le1, w1, rfl⟩ := areVotes_spec h hw vs a1 c1 h1 ok.2.2.2.2.1
  refine acall_q fun Q HQ => ?_
  refine acall_vc (fun _ => false) (fun _ => []) (fun _ => irL cg [.int .i64 id, .int .i64 view, .bool chg, .int .i64 top, .slice a1 vs.length c1, .slice a2 cg.length c2, .int .i64 k, .int .i64 f, .int .i64 v, .int .i64 q, .string op, .slice a3 cs.length c3, .slice a4 log.length c4] a2 c2 g) mixed Tryz.func39 rfl rfl rfl (Nat.le_of_ble_eq_true rfl) ?_ ?_
  · (refine vc_mp (by kernel_rfl : (Qcx True (True ∧ (True ∧ True) ∧ True) (Qcx True (∀ (i : Nat × AHeap), Qdd (Prod.fst i ≤ List.length cg) g (Prod.snd i) (∀ (j : Nat), j < Prod.fst i → CgAt cg j) → bs (decide (Qdh i < Qcq cg)) (∃ (l r : Nat), Qcw (a2 = some (Addr.mk l r (some 3))) (Qcp ≤ Qdh i) (Qdh i < Qcq cg) (∃ (x x_1 : Int) (a : Option Addr) (n c : Nat), AHeap.ld (Prod.snd i) l (r + Int.toNat (Qdh i)) 0 3 = some [Qct x, Qct x_1, Value.slice a n c] ∧ (∃ (x_2 : Bool) (h' : AHeap), Qdc 92 [Value.agg (Array.mk [Qct x, Qct x_1, Value.slice a n c])] (Prod.snd i) x_2 h' (Qdd (Qcn = Qcn) g h' (∃ (j : Nat), Qdf j cg)) (∃ (x_3 : Int) (h'_1 : AHeap), ACall Tryz.prog 93 [Qcs a2 cg c2, Value.agg (Array.mk [Qct x, Qct x_1, Value.slice a n c])] h' (Qct x_3) h'_1 ∧ bs (decide (x_3 < Qdh i)) (Qdd (Qcn = Qcn) g h'_1 (∃ (j : Nat), Qdf j cg)) (∃ (j : Nat × AHeap), Qde (Qdb = Qdb) (Qcs a2 cg c2 = Qcs a2 cg c2) cg (Qd2 (Qdh i) (Prod.fst j)) (Qda id view chg top a1 vs c1 a2 cg c2 k f v q op a3 cs c3 a4 log c4 = Qda id view chg top a1 vs c1 a2 cg c2 k f v q op a3 cs c3 a4 log c4) (Prod.snd j = h'_1) (Prod.fst j ≤ List.length cg) g j (∀ (j_1 : Nat), j_1 < Prod.fst j → CgAt cg j_1) (List.length cg - Prod.fst j < List.length cg - Prod.fst i) ((∀ (k : AHeap), Qdg g k (∀ (j : Nat), Qd8 j cg) → Qdg g k (∀ (j : Nat), Qd8 j cg)) ∧ (∀ (v : Value) (h : AHeap), Qdd (v = Qcn) g h (∃ (j : Nat), Qdf j cg) → Qdd (v = Qcn) g h (∃ (j : Nat), Qdf j cg)))))))) (∃ (j : AHeap), Qcx (Qdb = Qdb) (Qda id view chg top a1 vs c1 a2 cg c2 k f v q op a3 cs c3 a4 log c4 = Qda id view chg top a1 vs c1 a2 cg c2 k f v q op a3 cs c3 a4 log c4) (j = Prod.snd i) (AHeap.Le g j) (AHeap.wf j ∧ (∀ (j : Nat), Qd8 j cg)))) True (True ∧ True) (Qcw True True (True ∧ True) True ∧ True)) True True) = _) ?_; delta Qcn Qcp Qcq Qcr Qcs Qct Qcw Qcx Qd0 Qd1 Qd2 Qd6 Qd8 Qd9 Qda Qdb Qdc Qdd Qde Qdf Qdg Qdh)
    simp only [true_and, and_true]
    rintro ⟨i, u⟩ ⟨hi, le, wf, hall⟩
    dsimp only at *
    refine bs_d (fun hlt => ?_) (fun hge => ⟨u, rfl, le, wf, fun j hj => hall j (by omega)⟩)
    obtain ⟨⟨f', v', p⟩, hat⟩ : ∃ y : Int × Int × List proofSh.T, cg[i]? = some y := ⟨_, List.getElem?_eq_getElem (by omega)⟩
    obtain ⟨l, r, row, ha, _, hrd, hld⟩ := ((h2.mono le1).mono le).elem hat
    obtain ⟨v1, rfl, s1⟩ := rd_change.1 hrd
    obtain ⟨a5, c5, rfl⟩ := s1.isSlice
    dsimp only at hld s1
    have okp := ok.2.2.2.2.2.1.2 (f', v', p) (List.mem_of_getElem? hat)
    obtain ⟨_, g2, A2, le2, w2, m, rfl, hm⟩ := changeIndex_spec u wf a2 c2 cg f' v' a5 p.length c5 ((h2.mono le1).mono le) n2
    have self : ChAt cg f' v' i := ⟨_, hat, rfl, rfl⟩
    refine ⟨l, r, ha, Int.natCast_nonneg _, hlt, _, _, _, _, _, hld, _, _, isChange_spec u f' v' p a5 c5 s1 okp.2.2, bs_nb (fun e => ⟨le, wf, i, by omega, fun H => of_trn e (H.out hat).1⟩) (fun e1 => ?_)⟩
    refine ⟨_, _, A2, bs_d (fun e => ⟨le.trans le2, w2, i, by omega, fun H => (hm.low (by omega) self).1 e (H.out hat).2⟩) (fun e2 => ?_)⟩
    have hno : ∀ j, j < i → ¬ ChAt cg f' v' j := Classical.byContradiction fun hn => e2 ((hm.low (by omega) self).2 hn)
    exact ⟨(i + 1, g2), by rw [wrap_i64 (by omega)]; rfl, rfl, ⟨by dsimp only; omega, le.trans le2, w2, upto_step hall ⟨_, hat, of_tr e1, hno⟩⟩, by dsimp only; omega, fun _ h => h, fun _ _ h => h⟩
  have F : ∀ u, h.Le u → u.wf → ¬ RepOk (id, view, chg, top, vs, cg, (k, f, v, q, op, cs), log) → Q (.bool false) u := fun u le w H => HQ _ _ ⟨le, w, congrArg _ (tr_false H)⟩
  (refine vc_mp (by kernel_rfl : (∃ (x : Bool) (h' : AHeap), Qdc 86 [Qct id] h x h' (Q Qcn h') (∃ (x : Bool) (h'_1 : AHeap), Qdc 87 [Qct view, Qct Qcp] h' x h'_1 (Q Qcn h'_1) (bs chg (bs (decide (view = Qcp)) (Q Qcn h'_1) (∃ (x : Bool) (h' : AHeap), Qdc 88 [Qct top, Qct Qcp, Qct 6] h'_1 x h' (Q Qcn h') (∃ (x : Bool) (h'_2 : AHeap), Qdc 89 [Qd9 a1 vs c1] h' x h'_2 (Q Qcn h'_2) (bs (decide (Qcq cg > 40)) (Q Qcn h'_2) (bs (decide (Qd3 log > 6)) (Q Qcn h'_2) (∃ (x : Bool) (h' : AHeap), Qcr 90 [Qd6 a4 log c4, Qd4 91] h'_2 x h' ∧ bs x (Q Qcn h') (∃ (i : Nat × AHeap), Qde (Qdb = Qdb) (Qcs a2 cg c2 = Qcs a2 cg c2) cg (Qd1 Qcp (Prod.fst i)) (Qda id view chg top a1 vs c1 a2 cg c2 k f v q op a3 cs c3 a4 log c4 = Qda id view chg top a1 vs c1 a2 cg c2 k f v q op a3 cs c3 a4 log c4) (Prod.snd i = h') (Prod.fst i ≤ List.length cg) g i (∀ (j : Nat), j < Prod.fst i → CgAt cg j) (∀ (j : AHeap), Qdg g j (∀ (j : Nat), Qd8 j cg) → (∃ (x : Bool) (h' : AHeap), Qcr 94 [Qcu k f v q op a3 cs c3] j x h' ∧ bs x (Q (Value.bool true) h') (∃ (x : Bool) (h'_3 : AHeap), Qcr 95 [Qcu k f v q op a3 cs c3] h' x h'_3 ∧ Q (Value.bool x) h'_3))) (∀ (v : Value) (h : AHeap), Qdd (v = Qcn) g h (∃ (j : Nat), Qdf j cg) → Q v h)))))))) (∃ (x : Bool) (h' : AHeap), Qdc 88 [Qct top, Qct Qcp, Qct 6] h'_1 x h' (Q Qcn h') (∃ (x : Bool) (h'_2 : AHeap), Qdc 89 [Qd9 a1 vs c1] h' x h'_2 (Q Qcn h'_2) (bs (decide (Qcq cg > 40)) (Q Qcn h'_2) (bs (decide (Qd3 log > 6)) (Q Qcn h'_2) (∃ (x : Bool) (h' : AHeap), Qcr 90 [Qd6 a4 log c4, Qd4 91] h'_2 x h' ∧ bs x (Q Qcn h') (∃ (i : Nat × AHeap), Qde (Qdb = Qdb) (Qcs a2 cg c2 = Qcs a2 cg c2) cg (Qd1 Qcp (Prod.fst i)) (Qda id view chg top a1 vs c1 a2 cg c2 k f v q op a3 cs c3 a4 log c4 = Qda id view chg top a1 vs c1 a2 cg c2 k f v q op a3 cs c3 a4 log c4) (Prod.snd i = h') (Prod.fst i ≤ List.length cg) g i (∀ (j : Nat), j < Prod.fst i → CgAt cg j) (∀ (j : AHeap), Qdg g j (∀ (j : Nat), Qd8 j cg) → (∃ (x : Bool) (h' : AHeap), Qcr 94 [Qcu k f v q op a3 cs c3] j x h' ∧ bs x (Q (Value.bool true) h') (∃ (x : Bool) (h'_3 : AHeap), Qcr 95 [Qcu k f v q op a3 cs c3] h' x h'_3 ∧ Q (Value.bool x) h'_3))) (∀ (v : Value) (h : AHeap), Qdd (v = Qcn) g h (∃ (j : Nat), Qdf j cg) → Q v h)))))))))) = _) ?_; delta Qcn Qcp Qcq Qcr Qcs Qct Qcu Qcw Qcx Qd0 Qd1 Qd3 Qd4 Qd6 Qd8 Qd9 Qda Qdb Qdc Qdd Qde Qdf Qdg)
  refine ⟨_, _, isReplica_spec _ _, bs_nb (fun e => F _ (.refl _) hw fun H => inF e H.1) (fun e1 => ⟨_, _, isView_spec _ _ _, bs_nb (fun e => F _ (.refl _) hw fun H => of_trn e H.2.1) (fun e2 => ?_)⟩)⟩
  have e2' := of_tr e2
  refine bs_of (fun hc => bs_d (fun hv => F _ (.refl _) hw fun H => H.2.2.1 ⟨hc, hv⟩) (fun hv => ?_)) (fun hc => ?_)
  all_goals
    have hcv : ¬ (chg = true ∧ view = 0) := by first | (intro H; omega) | (intro H; rw [hc] at H; cases H.1)
    refine ⟨_, _, within_spec _ _ _ _, bs_nb (fun e => F _ (.refl _) hw fun H => inF e H.2.2.2.1) (fun e3 => ?_)⟩
    refine ⟨_, _, A1, bs_nb (fun e => F _ le1 w1 fun H => of_trn e H.2.2.2.2.1) (fun e4 => ?_)⟩
    refine bs_d (fun e => F _ le1 w1 fun H => by have := H.2.2.2.2.2.1.1; dsimp only at this; omega) (fun e5 => ?_)
    refine bs_d (fun e => F _ le1 w1 fun H => by have : log.length ≤ 6 := H.2.2.2.2.2.2.2.1; omega) (fun e8 => ?_)
    refine ⟨_, _, containsLog_spec g a4 c4 log (h4.mono le1) n4, bs_b (fun e => F _ le1 w1 fun H => of_tr e H.2.2.2.2.2.2.2.2) (fun e9 => ?_)⟩
    have hl : ∀ t ∈ log, ByteArray.size t ≤ 120 := Classical.not_not.1 (of_trn e9)
    refine ⟨(0, g), rfl, rfl, rfl, rfl, rfl, rfl, ⟨Nat.zero_le _, .refl _, w1, fun j hj => absurd hj (Nat.not_lt_zero _)⟩, fun u ⟨lu, wu, hall⟩ => ?_, fun _ u ⟨x1, lu, wu, j, hj, hn⟩ => HQ _ _ ⟨le1.trans lu, wu, x1.trans (congrArg _ (tr_false fun H => hn (H.2.2.2.2.2.1.2 j hj)))⟩⟩
    have hcg : CgsOk cg := ⟨by omega, hall⟩
    have hlog : LogOk log := ⟨by omega, hl⟩
    refine ⟨_, _, isZeroSay_spec u k f v q op cs a3 c3, bs_b (fun e6 => HQ _ _ ⟨le1.trans lu, wu, congrArg _ (tr_true ⟨inT e1, e2', hcv, inT e3, of_tr e4, hcg, .inl (of_tr e6), hlog⟩)⟩) (fun e6 => ?_)⟩
    refine ⟨_, _, implNewRight_spec u k f v q op cs a3 c3 ((h3.mono le1).mono lu) ok.2.2.2.2.2.2.1.2.2.2.2.2, HQ _ _ ⟨le1.trans lu, wu, congrArg _ (tr_congr ⟨fun H => ⟨inT e1, e2', hcv, inT e3, of_tr e4, hcg, .inr H, hlog⟩, fun H => H.2.2.2.2.2.2.1.resolve_left (of_trn e6)⟩)⟩⟩
abbrev repV (r : replicaSh.T) (v1 v2 v3 v4 : Value) : Value := .agg #[.int .i64 r.1, .int .i64 r.2.1, .bool r.2.2.1, .int .i64 r.2.2.2.1, v1, v2, .int .i64 r.2.2.2.2.2.2.1.1, .int .i64 r.2.2.2.2.2.2.1.2.1, .int .i64 r.2.2.2.2.2.2.1.2.2.1, .int .i64 r.2.2.2.2.2.2.1.2.2.2.1, .string r.2.2.2.2.2.2.1.2.2.2.2.1, v3, v4]
end Go.Proofs.YtpgfjadjhliohaaGreat
end
section
namespace Go.Dat
open Go.Abs
structure OX (α : Type) where
  a : Option Addr
  c : Nat
  xs : List α
  ids : List Nat
  g : AHeap
def OXok (s : Sh) (h : AHeap) (o : OX s.T) : Prop := SoB s h o.g o.a o.xs.length o.c o.xs o.ids
theorem OXok.nil {s : Sh} {h : AHeap} (hw : h.wf) : OXok s h ⟨none, 0, [], [], h⟩ := SoB.nil hw
theorem OXok.grow {s : Sh} {h : AHeap} {o : OX s.T} (B : OXok s h o) {g' : AHeap} (le : o.g.Le g') (wf : g'.wf) : OXok s h ⟨o.a, o.c, o.xs, o.ids, g'⟩ := SoB.grow B le wf
theorem rowsV_push {g : AHeap} {z : Nat} {cs : List Value} {c : Nat} : rowsV (g.push ⟨[cs], z, true⟩) (.slice (some ⟨g.n, 0, some z⟩) 1 c) = some [cs] := by
  show (g.push ⟨[cs], z, true⟩).rowsOf (.slice (some ⟨g.n, 0, some z⟩) 1 c) = some [cs]
  rw [get_rows AHeap.get_push_eq (by simp)]; rfl
theorem OXok.app {s : Sh} {h : AHeap} {o : OX s.T} (B : OXok s h o) {x : s.T} {cs : List Value} {js : List Nat} (rn : s.rn o.g x cs js) (fj : Fresh h.n o.g.n js) (d : ∀ z ∈ o.ids, z ∉ js) :
    ∃ o' : OX s.T, (o.g.push ⟨[cs], s.cells, true⟩).app (.slice o.a o.xs.length o.c) [cs] s.cells = some (.slice o'.a o'.xs.length o'.c, o'.g) ∧ OXok s h o' ∧ o'.xs = o.xs ++ [x] ∧ o.g.n ≤ o'.g.n ∧ (∀ z w, z ∉ o.ids → o.g.get z = some w → o'.g.get z = some w) ∧ ∀ z ∈ o'.ids, z = o.g.n + 1 ∨ z ∈ o.ids ∨ z ∈ js := by
  have lp := AHeap.Le.push B.wf ⟨[cs], s.cells, true⟩
  obtain ⟨l, h', ids', e, B', hn, hi, hk⟩ := (SoB.grow B lp (B.wf.push _)).app (rn.le lp) (fj.widen (Nat.le_refl _) lp.n) d
  have el : (o.xs ++ [x]).length = o.xs.length + 1 := by simp
  refine ⟨⟨some ⟨l, 0, some s.cells⟩, 0, o.xs ++ [x], ids', h'⟩, by dsimp only; rw [el]; exact e, ?_, rfl, Nat.le_trans lp.n hn, fun z w hz hw => hk z w hz (lp.get z w hw), fun z hz => hi z hz⟩
  show SoB s h h' (some ⟨l, 0, some s.cells⟩) (o.xs ++ [x]).length 0 (o.xs ++ [x]) ids'
  rw [el]; exact B'
theorem OXok.sn {s : Sh} {h : AHeap} {o : OX s.T} (B : OXok s h o) : Sn o.g s o.xs (.slice o.a o.xs.length o.c) o.ids := SoB.sn B
end Go.Dat
namespace Go.Proofs.YtpgfjadjhliohaaGreat
open Go.Abs Go.Dat
set_option maxRecDepth 100000
set_option maxHeartbeats 8000000
abbrev CastP (l : List voteSh.T) (k v q : Int) (op : ByteArray) : Int → Prop := fun f => (k, v, q, op, f) ∈ l
def svL (h : AHeap) (a : Option Addr) (c : Nat) (l : List voteSh.T) (k v q : Int) (op : ByteArray) : Nat → LSpec
  | 0 => {
    ι := Nat × OX Int
    κ := OX Int
    I := fun i => i.1 ≤ 4 ∧ OXok Sh.int h i.2 ∧ i.2.xs = upP (CastP l k v q op) i.1
    μ := fun i => 4 - i.1
    head := fun i => ⟨[(0, .slice a l.length c), (1, .int .i64 k), (2, .int .i64 v), (3, .int .i64 q), (4, .string op), (11, .slice i.2.a i.2.xs.length i.2.c), (12, .int .i64 i.1)], [], i.2.g⟩
    post := fun o => ⟨[(11, .slice o.a o.xs.length o.c)], [], o.g⟩
    R := fun _ o => OXok Sh.int h o ∧ o.xs = votersM l k v q op
    ret := fun _ _ _ => False }
  | _ => {
    ι := Nat × Nat × OX Int
    κ := Nat × OX Int
    I := fun i => i.1 < 4 ∧ i.2.1 ≤ l.length ∧ OXok Sh.int h i.2.2 ∧ i.2.2.xs = upP (CastP l k v q op) i.1 ++ (bif tr (∃ j, j < i.2.1 ∧ l[j]? = some (k, v, q, op, (i.1 : Int))) then [(i.1 : Int)] else [])
    μ := fun i => l.length - i.2.1
    head := fun i => ⟨[(0, .slice a l.length c), (1, .int .i64 k), (2, .int .i64 v), (3, .int .i64 q), (4, .string op), (11, .slice i.2.2.a i.2.2.xs.length i.2.2.c), (12, .int .i64 i.1), (13, .int .i64 i.2.1)], [], i.2.2.g⟩
    post := fun i => ⟨[(0, .slice a l.length c), (1, .int .i64 k), (2, .int .i64 v), (3, .int .i64 q), (4, .string op), (11, .slice i.2.a i.2.xs.length i.2.c), (12, .int .i64 i.1)], [], i.2.g⟩
    R := fun i o => o.1 = i.1 ∧ OXok Sh.int h o.2 ∧ o.2.xs = upP (CastP l k v q op) (i.1 + 1)
    ret := fun _ _ _ => False }
def Qdi (a : Prop) (b c d : Int) (e : Qe3) (f g h i : Prop) := Qcx a (Qd0 b b) (Qd0 c c) (Qd0 d d) (Qcx (Value.string e = Value.string e) f g h i)
def Qdj (a : Nat × OX Int) (b : Nat × Nat × OX Int) (c : AHeap) (d : Nat × OX (Sh.T Sh.int)) (e : Qe8) := Prod.fst a = Prod.fst b ∧ OXok Sh.int c (Prod.snd d) ∧ OX.xs (Prod.snd a) = upP e (Prod.fst b + Qd7)
def Qdk (a : Qe7) (b c d : Int) (e : Qe3) (f : Int) := Membership.mem a (Prod.mk b (Prod.mk c (Prod.mk d (Prod.mk e f))))
def Qdl (a : Nat × Nat × OX Int) := Prod.snd (Prod.snd a)
def Qdm (a : Nat × Nat × OX Int) := OX.g (Qdl a)
def Qdn (a : Nat × OX Int) := OX.g (Prod.snd a)
def Qdo (a : Nat × Nat × OX Int) := (↑(Prod.fst a) : Int)
def Qdp (a : OX Int) (b : List Int) := Value.slice (OX.a a) (List.length b) (OX.c a)
def Qdq (a : Nat × OX Int) := Qdp (Prod.snd a) (OX.xs (Prod.snd a))
def Qdr (a : Nat × Nat × OX Int) := Qdp (Qdl a) (OX.xs (Qdl a))
def Qds (a : Qe5) (b : Qe7) (c : Nat) := Qd9 a b c = Qd9 a b c
def Qdt (a : Nat × Nat × OX Int) := Prod.fst (Prod.snd a)
def Qdu (a : Nat × Nat × OX Int) := (↑(Qdt a) : Int)
def Qdv (a : Qe5) (b : Qe7) (c : Nat) (d e f : Int) (g : Qe3) (h : Prop) (i j : Nat × Nat × OX Int) (k l m n o : Prop) := Qdi (Qds a b c) d e f g h (Qd0 (Qdo i) (Qdo j)) (Qd2 (Qdu i) (Qdt j)) (Qcx k l m n o)
def Qdw (a : Nat × OX Int) (b : Nat × Nat × OX Int) (c : AHeap) (d : Nat × OX (Sh.T Sh.int)) (e : Qe8) (f : Nat × Nat × OX Int) := Qdj a b c d e → Qdj a f c d e
def Qdx (a : Qe7) (b c : Nat × Nat × OX Int) := List.length a - Qdt b < List.length a - Qdt c
def Qdy (a : Nat × Nat × OX Int) (b : Qe7) (c : AHeap) (d : Nat × Nat × OX (Sh.T Sh.int)) (e : Qe8) (f : Prop) (g : List Int) := Qcw (Prod.fst a < 4) (Qdt a ≤ List.length b) (OXok Sh.int c (Prod.snd (Prod.snd d))) (OX.xs (Qdl a) = Append.append (upP e (Prod.fst a)) (cond (tr f) g List.nil))
def Qdz (a : Nat) (b : Nat × Nat × OX Int) (c : Qe7) (d e f : Int) (g : Qe3) := a < Qdt b ∧ getElem? c a = some (Prod.mk d (Prod.mk e (Prod.mk f (Prod.mk g (Qdo b)))))
def Qe0 (a b : Nat × Nat × OX Int) := Qdm a = Qdm b
def Qe1 (a b : Nat × Nat × OX Int) := Qdr a = Qdr b
def Qe2 (a : Prop) (b : AHeap) (c : Nat × OX (Sh.T Sh.int)) (d : Nat × OX Int) (e : Qe8) := a ∧ OXok Sh.int b (Prod.snd c) ∧ OX.xs (Prod.snd d) = upP e (Prod.fst d)
theorem l11Voters_spec (h : AHeap) (hw : h.wf) (a : Option Addr) (c : Nat) (l : List voteSh.T) (k v q : Int) (op : ByteArray) (hx : Sl h voteSh l (.slice a l.length c)) (H : VotsOk l) :
    ∃ r h', ACall Tryz.prog 144 [.slice a l.length c, .int .i64 k, .int .i64 v, .int .i64 q, .string op] h r h' ∧ ∃ o : OX Int, r = .slice o.a o.xs.length o.c ∧ h' = o.g ∧ OXok Sh.int h o ∧ o.xs = votersM l k v q op := by
  have n1 := H.1
  refine acall_q fun Q HQ => ?_
  refine acall_vc (fun _ => false) (fun _ => []) (svL h a c l k v q op) mixed Tryz.func144 rfl rfl rfl (Nat.le_of_ble_eq_true rfl) ?_ ?_
  · (refine vc_mp (by kernel_rfl : (Qcx True True (Qcx True (∀ (i : Nat × OX Int), Qe2 (Prod.fst i ≤ 4) h i i (fun (f : Int) => Qdk l k v q op f) → bs (decide ((↑(Prod.fst i) : Int) < 4)) (∃ (i_1 : Nat × Nat × OX Int), Qdi (Qds a l c) k v q op (Qdq i = Qdr i_1) (Qd0 (↑(Prod.fst i) : Int) (Qdo i_1)) (Qd1 Qcp (Qdt i_1)) (Qcw (Qdm i_1 = Qdn i) (Qdy i_1 l h i_1 (fun (f : Int) => Qdk l k v q op f) (∃ (j : Nat), Qdz j i_1 l k v q op) [Qdo i_1]) (∀ (j : Nat × OX Int), Qdj j i_1 h j (fun (f : Int) => Qdk l k v q op f) → (∃ (j_1 : Nat × OX Int), Qdi (Qds a l c) k v q op (Qdq j = Qdq j_1) (Qd2 (↑(Prod.fst j) : Int) (Prod.fst j_1)) (Qdn j_1 = Qdn j) (Qcw (Qe2 (Prod.fst j_1 ≤ 4) h j_1 j_1 (fun (f : Int) => Qdk l k v q op f)) (4 - Prod.fst j_1 < 4 - Prod.fst i) (∀ (k_1 : OX Int), OXok Sh.int h k_1 ∧ OX.xs k_1 = votersM l k v q op → OXok Sh.int h k_1 ∧ OX.xs k_1 = votersM l k v q op) (∀ (v : Value) (h : AHeap), False → False)))) (∀ (v : Value) (h : AHeap), False → False))) (∃ (j : OX Int), Qcw (Qdq i = Qdp j (OX.xs j)) (OX.g j = Qdn i) (OXok Sh.int h j) (OX.xs j = votersM l k v q op))) Qcl (Qcx True (∀ (i : Nat × Nat × OX Int), Qdy i l h i (fun (f : Int) => Qdk l k v q op f) (∃ (j : Nat), Qdz j i l k v q op) [Qdo i] → bs (decide (Qdu i < (↑(List.length l) : Int))) (∃ (l_1 r : Nat), Qcw (a = some (Addr.mk l_1 r (some 5))) (Qcp ≤ Qdu i) (Qdu i < (↑(List.length l) : Int)) (∃ (x x_1 x_2 : Int) (x_3 : ByteArray) (x_4 : Int), AHeap.ld (Qdm i) l_1 (r + Int.toNat (Qdu i)) 0 5 = some [Qct x, Qct x_1, Qct x_2, Value.string x_3, Qct x_4] ∧ bs (decide (x_4 = Qdo i)) (bs (decide (x = k)) (bs (decide (x_1 = v)) (bs (decide (x_2 = q)) (bs (decide (x_3 = op)) (∃ (xs : List (List Value)), Qcw (rowsV (AHeap.push (Qdm i) (AObj.mk [[Qct (Qdo i)]] Qd7 true)) (Value.slice (some (Addr.mk (AHeap.n (Qdm i)) 0 (some Qd7))) Qd7 2) = some xs) (List.all xs (fun (row : List Value) =>
  decide (List.length row = (1 : Nat)) &&
    List.all row fun (v : Value) =>
      match v with
      | Value.agg cells => false
      | Value.tuple cells => false
      | Value.complex k re im => false
      | Value.chan r => false
      | x => true) = true) ((List.length (OX.xs (Qdl i)) + List.length xs) * 8 ≤ 140737488355328) (∃ (a_2 : Option Addr) (n c_1 : Nat) (h' : AHeap), AHeap.app (AHeap.push (Qdm i) (AObj.mk [[Qct (Qdo i)]] Qd7 true)) (Qdr i) xs Qd7 = some (Prod.mk (Value.slice a_2 n c_1) h') ∧ (∃ (j : Nat × Nat × OX Int), Qdv a l c k v q op (Value.slice a_2 n c_1 = Qdr j) i j (Qdm j = h') (Qdy j l h j (fun (f : Int) => Qdk l k v q op f) (∃ (j_1 : Nat), Qdz j_1 j l k v q op) [Qdo j]) (Qdx l j i) (∀ (k_1 : Nat × OX Int), Qdw k_1 j h k_1 (fun (f : Int) => Qdk l k v q op f) i) (∀ (v : Value) (h : AHeap), False → False)))) (∃ (j : Nat × Nat × OX Int), Qdv a l c k v q op (Qe1 i j) i j (Qe0 j i) (Qdy j l h j (fun (f : Int) => Qdk l k v q op f) (∃ (j_1 : Nat), Qdz j_1 j l k v q op) [Qdo j]) (Qdx l j i) (∀ (k_1 : Nat × OX Int), Qdw k_1 j h k_1 (fun (f : Int) => Qdk l k v q op f) i) (∀ (v : Value) (h : AHeap), False → False))) (∃ (j : Nat × Nat × OX Int), Qdv a l c k v q op (Qe1 i j) i j (Qe0 j i) (Qdy j l h j (fun (f : Int) => Qdk l k v q op f) (∃ (j_1 : Nat), Qdz j_1 j l k v q op) [Qdo j]) (Qdx l j i) (∀ (k_1 : Nat × OX Int), Qdw k_1 j h k_1 (fun (f : Int) => Qdk l k v q op f) i) (∀ (v : Value) (h : AHeap), False → False))) (∃ (j : Nat × Nat × OX Int), Qdv a l c k v q op (Qe1 i j) i j (Qe0 j i) (Qdy j l h j (fun (f : Int) => Qdk l k v q op f) (∃ (j_1 : Nat), Qdz j_1 j l k v q op) [Qdo j]) (Qdx l j i) (∀ (k_1 : Nat × OX Int), Qdw k_1 j h k_1 (fun (f : Int) => Qdk l k v q op f) i) (∀ (v : Value) (h : AHeap), False → False))) (∃ (j : Nat × Nat × OX Int), Qdv a l c k v q op (Qe1 i j) i j (Qe0 j i) (Qdy j l h j (fun (f : Int) => Qdk l k v q op f) (∃ (j_1 : Nat), Qdz j_1 j l k v q op) [Qdo j]) (Qdx l j i) (∀ (k_1 : Nat × OX Int), Qdw k_1 j h k_1 (fun (f : Int) => Qdk l k v q op f) i) (∀ (v : Value) (h : AHeap), False → False))) (∃ (j : Nat × Nat × OX Int), Qdv a l c k v q op (Qe1 i j) i j (Qe0 j i) (Qdy j l h j (fun (f : Int) => Qdk l k v q op f) (∃ (j_1 : Nat), Qdz j_1 j l k v q op) [Qdo j]) (Qdx l j i) (∀ (k_1 : Nat × OX Int), Qdw k_1 j h k_1 (fun (f : Int) => Qdk l k v q op f) i) (∀ (v : Value) (h : AHeap), False → False)))) (∃ (j : Nat × OX Int), Qdi (Qds a l c) k v q op (Qdr i = Qdq j) (Qd1 (Qdo i) (Prod.fst j)) (Qdn j = Qdm i) (Qdj j i h j (fun (f : Int) => Qdk l k v q op f)))) Qcl (Qcw True True True True) True) True) True True) = _) ?_; delta Qcl Qcp Qct Qcw Qcx Qd0 Qd1 Qd2 Qd7 Qd9 Qdi Qdj Qdk Qdl Qdm Qdn Qdo Qdp Qdq Qdr Qds Qdt Qdu Qdv Qdw Qdx Qdy Qdz Qe0 Qe1 Qe2)
    simp only [true_and, and_true]
    refine ⟨fun ⟨f, o⟩ ⟨hf, B, hxs⟩ => ?_, fun ⟨f, i, o⟩ ⟨hf, hi, B, hxs⟩ => ?_⟩
    · dsimp only at *
      refine bs_d (fun hlt => ⟨(f, 0, o), rfl, rfl, rfl, rfl, ⟨by dsimp only; omega, Nat.zero_le _, B, ?_⟩, fun ⟨f', o'⟩ ⟨e, B', hx'⟩ => ?_, fun _ _ h => h⟩) (fun hge => ⟨o, rfl, rfl, B, by rw [hxs, show f = 4 by omega]; rfl⟩)
      · dsimp only
        rw [← tr_false (fun ⟨j, hj, _⟩ => absurd hj (Nat.not_lt_zero _))]
        exact hxs.trans (List.append_nil _).symm
      · dsimp only at *
        subst e
        exact ⟨(f' + 1, o'), rfl, by rw [wrap_i64 (by omega)]; rfl, rfl, ⟨by dsimp only; omega, B', hx'⟩, by dsimp only; omega, fun _ h => h, fun _ _ h => h⟩
    · dsimp only at *
      refine bs_d (fun hlt => ?_) (fun hge => ⟨(f, o), rfl, rfl, rfl, rfl, B, ?_⟩)
      · obtain ⟨⟨k', v', q', op', f'⟩, hat⟩ : ∃ y : Int × Int × Int × ByteArray × Int, l[i]? = some y := ⟨_, List.getElem?_eq_getElem (by omega)⟩
        obtain ⟨lo, r, row, ha, _, hrd, hld⟩ := (hx.mono B.le).elem hat
        obtain rfl := rd_vote.1 hrd
        dsimp only at hld
        have skip : ¬ (k', v', q', op', f') = (k, v, q, op, (f : Int)) → ∃ j : Nat × Nat × OX Int, Value.slice o.a o.xs.length o.c = .slice j.2.2.a j.2.2.xs.length j.2.2.c ∧ Value.int .i64 f = .int .i64 j.1 ∧ Value.int .i64 (IntKind.i64.wrap ((i : Int) + 1)) = .int .i64 j.2.1 ∧ j.2.2.g = o.g ∧
            (j.1 < 4 ∧ j.2.1 ≤ l.length ∧ OXok Sh.int h j.2.2 ∧ j.2.2.xs = Append.append (upP (fun f => (k, v, q, op, f) ∈ l) j.1) (bif tr (∃ j_1, j_1 < j.2.1 ∧ l[j_1]? = some (k, v, q, op, (j.1 : Int))) then [(j.1 : Int)] else [])) ∧ l.length - j.2.1 < l.length - i ∧
            (∀ k_1 : Nat × OX Int, k_1.1 = j.1 ∧ OXok Sh.int h k_1.2 ∧ k_1.2.xs = upP (fun f => (k, v, q, op, f) ∈ l) (j.1 + 1) → k_1.1 = f ∧ OXok Sh.int h k_1.2 ∧ k_1.2.xs = upP (fun f => (k, v, q, op, f) ∈ l) (f + 1)) ∧ ∀ (v : Value) (h : AHeap), False → False := fun hne =>
          ⟨(f, i + 1, o), rfl, rfl, by rw [wrap_i64 (by omega)]; rfl, rfl, ⟨hf, by dsimp only; omega, B, hxs.trans (congrArg (Append.append _) (congrArg (fun b => bif b then [(f : Int)] else []) (tr_congr ⟨fun ⟨j, hj, hj2⟩ => ⟨j, Nat.lt_succ_of_lt hj, hj2⟩, fun ⟨j, hj, hj2⟩ => by
            rcases Nat.lt_succ_iff_lt_or_eq.1 hj with hj | rfl
            · exact ⟨j, hj, hj2⟩
            · rw [hat] at hj2; exact absurd (Option.some.inj hj2) hne⟩)))⟩, by dsimp only; omega, fun _ h => h, fun _ _ h => h⟩
        refine ⟨lo, r, ha, Int.natCast_nonneg _, hlt, _, _, _, _, _, hld, bs_d (fun e1 => bs_d (fun e2 => bs_d (fun e3 => bs_d (fun e4 => bs_d (fun e5 => ?_) (fun e => skip (fun H => e (congrArg (·.2.2.2.1) H)))) (fun e => skip (fun H => e (congrArg (·.2.2.1) H)))) (fun e => skip (fun H => e (congrArg (·.2.1) H)))) (fun e => skip (fun H => e (congrArg (·.1) H)))) (fun e => skip (fun H => e (congrArg (·.2.2.2.2) H)))⟩
        obtain rfl := e1; obtain rfl := e2; obtain rfl := e3; obtain rfl := e4; obtain rfl := e5
        have hno : ¬ ∃ j, j < i ∧ l[j]? = some (k', v', q', op', (f : Int)) := fun ⟨j, hj, hj2⟩ => by have := vots_at H hj2 hat; omega
        rw [← tr_false hno] at hxs
        obtain ⟨o', e6, B', hx', hn', _, _⟩ := B.app (x := (f : Int)) (cs := [.int .i64 f]) (js := []) ⟨rfl, rfl⟩ .nil (by simp)
        have hlen : o.xs.length ≤ 4 := by
          have h1 : o.xs = upP (fun f => (k', v', q', op', f) ∈ l) f := hxs.trans (List.append_nil _)
          rw [h1]; exact Nat.le_trans upP_len (by omega)
        refine ⟨[[.int .i64 f]], rowsV_push, rfl, by simp only [List.length_cons, List.length_nil]; omega, _, _, _, o'.g, e6, (f, i + 1, o'), rfl, rfl, by rw [wrap_i64 (by omega)]; rfl, rfl, ⟨hf, by dsimp only; omega, B', ?_⟩, by dsimp only; omega, fun _ h => h, fun _ _ h => h⟩
        dsimp only
        rw [← tr_true (show ∃ j, j < i + 1 ∧ l[j]? = some (k', v', q', op', (f : Int)) from ⟨i, Nat.lt_succ_self _, hat⟩), hx', hxs]
        show (_ ++ []) ++ _ = _
        rw [List.append_nil]; rfl
      · dsimp only
        rw [hxs, upP]
        refine congrArg (Append.append _) (congrArg (fun b => bif b then [(f : Int)] else []) (tr_congr ⟨fun ⟨j, _, hj2⟩ => List.mem_of_getElem? hj2, fun hm => ?_⟩))
        obtain ⟨j, hj⟩ := List.mem_iff_getElem?.1 hm
        have := (List.getElem?_eq_some_iff.1 hj).1
        exact ⟨j, by omega, hj⟩
  (refine vc_mp (by kernel_rfl : (∃ (i : Nat × OX Int), Qdi (Qds a l c) k v q op (Value.slice (some (Addr.mk (AHeap.n h) 0 (some Qd7))) 0 Qd7 = Qdq i) (Qd1 Qcp (Prod.fst i)) (Qdn i = AHeap.push h (AObj.mk List.nil Qd7 true)) (Qe2 (Prod.fst i ≤ 4) h i i (fun (f : Int) => Qdk l k v q op f) ∧ (∀ (j : OX Int), OXok Sh.int h j ∧ OX.xs j = votersM l k v q op → Q (Qdp j (OX.xs j)) (OX.g j)) ∧ (∀ (v : Value) (h : AHeap), False → Q v h))) = _) ?_; delta Qcp Qct Qcx Qd0 Qd1 Qd7 Qd9 Qdi Qdk Qdn Qdp Qdq Qds Qe2)
  have wp := hw.push ⟨[], 1, true⟩
  have B0 : OXok Sh.int h ⟨some ⟨h.n, 0, some 1⟩, 1, [], [h.n], h.push ⟨[], 1, true⟩⟩ := SoB.flat (s := Sh.int) (g := h) rfl (AHeap.Le.push hw ⟨[], 1, true⟩) wp hw (Nat.le_refl _) rfl AHeap.get_push_eq rfl (.inr rfl) (fun i y row h1 => by cases h1)
  exact ⟨(0, ⟨some ⟨h.n, 0, some 1⟩, 1, [], [h.n], h.push ⟨[], 1, true⟩⟩), rfl, rfl, rfl, rfl, rfl, rfl, rfl, rfl, ⟨by dsimp only; omega, B0, rfl⟩, fun o ⟨B, hx⟩ => HQ _ _ ⟨o, rfl, rfl, B, hx⟩, fun _ _ h => h.elim⟩
end Go.Proofs.YtpgfjadjhliohaaGreat
end
