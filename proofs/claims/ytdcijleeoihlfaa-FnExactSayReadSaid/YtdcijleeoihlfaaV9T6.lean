/- Contracts: says read from bytes, in the reference. -/
import Derived.Test.YtdcijleeoihlfaaV9T5
import Derived.Test.YtdcijleeoihlfaaV9R5
namespace Go.Dat
open Go.Abs
def SOk (x : saySh.T) : Prop := SayOk x.1 x.2.1 x.2.2.1 x.2.2.2.1 x.2.2.2.2.1 x.2.2.2.2.2
noncomputable def sayDec (t : ByteArray) : Option saySh.T := match pSay t 0 with
  | none => none
  | some x => bif tr (x.2 = t.size ∧ SOk x.1) then some x.1 else none
theorem sayDec_none {t : ByteArray} (h : pSay t 0 = none) : sayDec t = none := by unfold sayDec; rw [h]
theorem sayDec_no {t : ByteArray} {x : saySh.T} {e : Nat} (h : pSay t 0 = some (x, e)) (hn : ¬ (e = t.size ∧ SOk x)) : sayDec t = none := by
  unfold sayDec; rw [h]; show (bif tr (e = t.size ∧ SOk x) then _ else _) = _; rw [← tr_false hn]; rfl
theorem sayDec_ok {t : ByteArray} {x : saySh.T} {e : Nat} (h : pSay t 0 = some (x, e)) (hn : e = t.size ∧ SOk x) : sayDec t = some x := by
  unfold sayDec; rw [h]; show (bif tr (e = t.size ∧ SOk x) then _ else _) = _; rw [← tr_true hn]; rfl
theorem sayDec_spec {t : ByteArray} {x : saySh.T} (h : sayDec t = some x) : SOk x := by
  unfold sayDec at h
  cases hp : pSay t 0 with
  | none => rw [hp] at h; cases h
  | some z =>
    obtain ⟨y, e⟩ := z
    rw [hp] at h
    dsimp only at h
    cases hc : tr (e = t.size ∧ SOk y) with
    | false => rw [hc] at h; cases h
    | true =>
      rw [hc] at h
      obtain rfl := Option.some.inj h
      exact (of_tr hc).2
theorem pSay_all {t : ByteArray} {k f v q : Int} {op : ByteArray} {cs : List changeSh.T} {e : Nat} (h : pSay t 0 = some ((k, f, v, q, op, cs), e)) : sayB k f v q op cs = t ↔ e = t.size := by
  obtain ⟨h1, h2, h3⟩ := pSay_enc h
  constructor
  · intro H
    have : (t.extract 0 e).size = t.size := by rw [h3, H]
    rw [ByteArray.size_extract] at this
    omega
  · intro H
    rw [← h3, H, extract_all]
def SayRes (h : AHeap) (t : ByteArray) (v : Value) (h' : AHeap) : Prop :=
  (sayDec t = none ∧ ∃ (x1 x2 x3 x4 : Int) (x5 : ByteArray) (a : Option Addr) (n c : Nat), v = .tuple #[.agg #[.int .i64 x1, .int .i64 x2, .int .i64 x3, .int .i64 x4, .string x5, .slice a n c], .bool false]) ∨
  ∃ (x1 x2 x3 x4 : Int) (x5 : ByteArray) (x6 : List changeSh.T) (y : Value) (j : List Nat), sayDec t = some (x1, x2, x3, x4, x5, x6) ∧ v = .tuple #[.agg #[.int .i64 x1, .int .i64 x2, .int .i64 x3, .int .i64 x4, .string x5, y], .bool true] ∧ Sn h' changeSh x6 y j ∧ Fresh h.n h'.n j
end Go.Dat
namespace Go.Proofs.Ytdcijleeoihlfaa
open Go.Abs Go.Dat
set_option maxRecDepth 100000
set_option maxHeartbeats 8000000
def srL (h : AHeap) (l : Nat) (t : ByteArray) (x1 x2 x3 x4 : Int) (x5 : ByteArray) (N3 a3 : Nat) (b3 : Bool) : LSpec where
  ι := RX changeSh.T
  κ := RX changeSh.T
  I := fun x => LpI changeSh (pChg t) t l (h.n + 1) x ∧ Kp [l] h x.g ∧ x.N = N3 ∧ x.a1 = a3 ∧ x.b1 = b3
  μ := fun x => x.n
  head := fun x => ⟨[(0, .string t), (2, .complex .f32 0 0), (4, .pointer (some ⟨l, 0, some 0⟩)), (5, .complex .f32 1 0), (6, .int .i64 x.n)], [[.int .i64 (Int.ofNat 0), .int .i64 (Int.ofNat 0), .int .i64 (Int.ofNat 0), .int .i64 (Int.ofNat 0), .string ⟨#[]⟩, .slice none 0 0], [.int .i64 x1, .int .i64 x2, .int .i64 x3, .int .i64 x4, .string x5, .slice x.A x.m x.c]], x.g⟩
  post := fun x => ⟨[(0, .string t), (2, .complex .f32 0 0), (4, .pointer (some ⟨l, 0, some 0⟩)), (5, .complex .f32 1 0)], [[.int .i64 (Int.ofNat 0), .int .i64 (Int.ofNat 0), .int .i64 (Int.ofNat 0), .int .i64 (Int.ofNat 0), .string ⟨#[]⟩, .slice none 0 0], [.int .i64 x1, .int .i64 x2, .int .i64 x3, .int .i64 x4, .string x5, .slice x.A x.m x.c]], x.g⟩
  R := fun _ x => LpI changeSh (pChg t) t l (h.n + 1) x ∧ Kp [l] h x.g ∧ x.N = N3 ∧ x.a1 = a3 ∧ x.b1 = b3 ∧ (x.n = 0 ∨ x.b = true)
  ret := fun _ _ _ => False
theorem specSayBytes (h : AHeap) (hw : h.wf) (k f v q : Int) (op : ByteArray) (cs : List changeSh.T) (a : Option Addr) (c : Nat) (h1 : Sl h changeSh cs (.slice a cs.length c)) (ok : (Sh.sl changeSh).ok cs) :
    ∃ r h', ACall Try.prog 85 [.agg #[.int .i64 k, .int .i64 f, .int .i64 v, .int .i64 q, .string op, .slice a cs.length c]] h r h' ∧ h.Le h' ∧ h'.wf ∧ r = .string (bif tr (SayOk k f v q op cs) then sayB k f v q op cs else ⟨#[]⟩) := by
  refine acall_q fun Q HQ => ?_
  refine acall_vc (fun _ => false) (fun _ => []) (fun _ => .none) mixed Try.func85 rfl rfl rfl (Nat.le_of_ble_eq_true rfl) (by refine vc_mp (by kernel_rfl : (True ∧ (True ∧ (True ∧ True) ∧ True) ∧ True ∧ True) = _) ?_; simp only [and_self]) ?_
  refine vc_mp (by kernel_rfl : (∃ (x : Bool), ∃ (h' : AHeap), ACall Try.prog (103 : Nat) [Value.agg (Array.mk [Value.int IntKind.i64 k, Value.int IntKind.i64 f, Value.int IntKind.i64 v, Value.int IntKind.i64 q, Value.string op, Value.slice a (List.length cs) c])] h (Value.bool x) h' ∧ bs (!x) (Q (Value.string (ByteArray.mk (Array.mk []))) h') (∃ (x : ByteArray), ∃ (h'_1 : AHeap), ACall Try.prog (137 : Nat) [Value.agg (Array.mk [Value.int IntKind.i64 k, Value.int IntKind.i64 f, Value.int IntKind.i64 v, Value.int IntKind.i64 q, Value.string op, Value.slice a (List.length cs) c])] h' (Value.string x) h'_1 ∧ Q (Value.string x) h'_1)) = _) ?_
  refine ⟨_, _, sayRight_spec h k f v q op cs a c h1 ok, bs_nb (fun e => ?_) (fun e => ?_)⟩
  · exact HQ _ _ ⟨.refl _, hw, by rw [e]; rfl⟩
  · obtain ⟨_, g1, A1, le1, w1, rfl⟩ := l10Bytes_spec h hw k f v q op cs a c h1 (of_tr e)
    exact ⟨_, _, A1, HQ _ _ ⟨le1, w1, by rw [e]; rfl⟩⟩
theorem l10Read_spec (h : AHeap) (hw : h.wf) (t : ByteArray) (ht : t.size ≤ 20000) : ∃ v h', ACall Try.prog 36 [.string t] h v h' ∧ h.Le h' ∧ h'.wf ∧ SayRes h t v h' := by
  have wp := hw.push (rdO t 0 false)
  have lp := AHeap.Le.push hw (rdO t 0 false)
  have hg0 : (h.push (rdO t 0 false)).get h.n = some (rdO t 0 false) := AHeap.get_push_eq
  obtain ⟨_, g1, A1, w1, o1, x1, a1, b1, rfl, hx1, hg1, R1⟩ := srnum_spec _ wp h.n t 0 false ht (Nat.zero_le _) hg0
  obtain ⟨_, g2, A2, w2, o2, x2, a2, b2, rfl, hx2, hg2, R2⟩ := srnum_spec g1 w1 h.n t a1 b1 ht R1.le hg1
  obtain ⟨_, g3, A3, w3, o3, x3, a3, b3, rfl, hx3, hg3, R3⟩ := srnum_spec g2 w2 h.n t a2 b2 ht R2.le hg2
  obtain ⟨_, g4, A4, w4, o4, x4, a4, b4, rfl, hx4, hg4, R4⟩ := srnum_spec g3 w3 h.n t a3 b3 ht R3.le hg3
  obtain ⟨_, g5, A5, w5, o5, x5, a5, b5, rfl, hx5, hg5, R5⟩ := srtext_spec g4 w4 h.n t a4 b4 ht R4.le hg4
  obtain ⟨_, g6, A6, w6, o6, N6, a6, b6, rfl, hN6, hg6, R6⟩ := srmany_spec g5 w5 h.n t a5 b5 4 (by omega) ht R5.le hg5
  have k6 : Kp [h.n] h g6 := (Kp.of_le lp).trans (o1.kp.trans (o2.kp.trans (o3.kp.trans (o4.kp.trans (o5.kp.trans o6.kp)))))
  have hl : h.n < h.n + 1 := Nat.lt_succ_self _
  have n6 : h.n + 1 ≤ g6.n := Nat.le_trans (Nat.le_refl _) (Nat.le_trans (o1.kp.trans (o2.kp.trans (o3.kp.trans (o4.kp.trans (o5.kp.trans o6.kp))))).n (Nat.le_refl _))
  refine acall_q fun Q HQ => ?_
  refine acall_vc (fun t => t == 9) (fun r => match r with | 10 => [(0, 0, []), (2, 0, []), (1, 1, []), (3, 3, [1]), (4, 3, [1]), (5, 3, []), (6, 0, []), (7, 3, [])] | 11 => [(1, 0, []), (2, 0, []), (3, 0, []), (0, 1, []), (4, 1, []), (5, 0, []), (6, 0, []), (7, 0, []), (8, 0, []), (9, 0, []), (10, 0, []), (13, 0, []), (11, 1, []), (12, 3, [0]), (14, 0, []), (15, 0, []), (16, 3, []), (17, 0, [])] | _ => []) (fun _ => srL h h.n t x1 x2 x3 x4 x5 N6 a6 b6) mixed Try.func36 rfl rfl rfl (Nat.le_of_ble_eq_true rfl) ?_ ?_
  · refine vc_mp (by kernel_rfl : (True ∧ True ∧ True ∧ True ∧ True ∧ True ∧ True ∧ (True ∧ (∀ (i : RX (Sh.T changeSh)), LpI changeSh (pChg t) t (AHeap.n h) (AHeap.n h + (1 : Nat)) i ∧ Kp [AHeap.n h] h (RX.g i) ∧ RX.N i = N6 ∧ RX.a1 i = a6 ∧ RX.b1 i = b6 → bs (decide ((↑(RX.n i) : Int) > (0 : Int))) (∃ (x : Bool), AHeap.ld (RX.g i) (AHeap.n h) (0 : Nat) (2 : Nat) (1 : Nat) = some [Value.bool x] ∧ bs (!x) (∃ (x : Int), ∃ (x_1 : Int), ∃ (a : Option Addr), ∃ (n : Nat), ∃ (c : Nat), ∃ (h' : AHeap), ACall Try.prog (84 : Nat) [Value.pointer (some (Addr.mk (AHeap.n h) (0 : Nat) (some (0 : Nat))))] (RX.g i) (Value.agg (Array.mk [Value.int IntKind.i64 x, Value.int IntKind.i64 x_1, Value.slice a n c])) h' ∧ Value.slice (RX.A i) (RX.m i) (RX.c i) = Value.slice (RX.A i) (RX.m i) (RX.c i) ∧ Value.slice (RX.A i) (RX.m i) (RX.c i) = Value.slice (RX.A i) (RX.m i) (RX.c i) ∧ ∃ (xs : List (List Value)), rowsV (AHeap.push h' (AObj.mk [[Value.int IntKind.i64 x, Value.int IntKind.i64 x_1, Value.slice a n c]] (3 : Nat) true)) (Value.slice (some (Addr.mk (AHeap.n h') (0 : Nat) (some (3 : Nat)))) (1 : Nat) (2 : Nat)) = some xs ∧ (List.all xs fun (row : List Value) => decide (List.length row = (3 : Nat)) && List.all row fun (v : Value) => match v with | Value.agg cells => false | Value.tuple cells => false | Value.complex k re im => false | Value.chan r => false | x => true) = true ∧ (RX.m i + List.length xs) * (40 : Nat) ≤ (140737488355328 : Nat) ∧ ∃ (a_1 : Option Addr), ∃ (n_1 : Nat), ∃ (c_1 : Nat), ∃ (h'_1 : AHeap), AHeap.app (AHeap.push h' (AObj.mk [[Value.int IntKind.i64 x, Value.int IntKind.i64 x_1, Value.slice a n c]] (3 : Nat) true)) (Value.slice (RX.A i) (RX.m i) (RX.c i)) xs (3 : Nat) = some (Value.slice a_1 n_1 c_1, h'_1) ∧ ∃ (j : RX (Sh.T changeSh)), Value.string t = Value.string t ∧ Value.complex FloatKind.f32 (0 : Nat) (0 : Nat) = Value.complex FloatKind.f32 (0 : Nat) (0 : Nat) ∧ Value.pointer (some (Addr.mk (AHeap.n h) (0 : Nat) (some (0 : Nat)))) = Value.pointer (some (Addr.mk (AHeap.n h) (0 : Nat) (some (0 : Nat)))) ∧ Value.complex FloatKind.f32 (1 : Nat) (0 : Nat) = Value.complex FloatKind.f32 (1 : Nat) (0 : Nat) ∧ Value.int IntKind.i64 (IntKind.wrap IntKind.i64 ((↑(RX.n i) : Int) - (1 : Int))) = Value.int IntKind.i64 (↑(RX.n j) : Int) ∧ [Value.int IntKind.i64 (Int.ofNat (0 : Nat)), Value.int IntKind.i64 (Int.ofNat (0 : Nat)), Value.int IntKind.i64 (Int.ofNat (0 : Nat)), Value.int IntKind.i64 (Int.ofNat (0 : Nat)), Value.string (ByteArray.mk (Array.mk [])), Value.slice none (0 : Nat) (0 : Nat)] = [Value.int IntKind.i64 (Int.ofNat (0 : Nat)), Value.int IntKind.i64 (Int.ofNat (0 : Nat)), Value.int IntKind.i64 (Int.ofNat (0 : Nat)), Value.int IntKind.i64 (Int.ofNat (0 : Nat)), Value.string (ByteArray.mk (Array.mk [])), Value.slice none (0 : Nat) (0 : Nat)] ∧ [Value.int IntKind.i64 x1, Value.int IntKind.i64 x2, Value.int IntKind.i64 x3, Value.int IntKind.i64 x4, Value.string x5, Value.slice (RX.A j) (RX.m j) (RX.c j)] = [Value.int IntKind.i64 x1, Value.int IntKind.i64 x2, Value.int IntKind.i64 x3, Value.int IntKind.i64 x4, Value.string x5, Value.slice a_1 n_1 c_1] ∧ RX.g j = h'_1 ∧ (LpI changeSh (pChg t) t (AHeap.n h) (AHeap.n h + (1 : Nat)) j ∧ Kp [AHeap.n h] h (RX.g j) ∧ RX.N j = N6 ∧ RX.a1 j = a6 ∧ RX.b1 j = b6) ∧ RX.n j < RX.n i ∧ (∀ (k : RX (Sh.T changeSh)), LpI changeSh (pChg t) t (AHeap.n h) (AHeap.n h + (1 : Nat)) k ∧ Kp [AHeap.n h] h (RX.g k) ∧ RX.N k = N6 ∧ RX.a1 k = a6 ∧ RX.b1 k = b6 ∧ (RX.n k = (0 : Nat) ∨ RX.b k = true) → LpI changeSh (pChg t) t (AHeap.n h) (AHeap.n h + (1 : Nat)) k ∧ Kp [AHeap.n h] h (RX.g k) ∧ RX.N k = N6 ∧ RX.a1 k = a6 ∧ RX.b1 k = b6 ∧ (RX.n k = (0 : Nat) ∨ RX.b k = true)) ∧ ∀ (v : Value) (h : AHeap), False → False) (∃ (j : RX (Sh.T changeSh)), Value.string t = Value.string t ∧ Value.complex FloatKind.f32 (0 : Nat) (0 : Nat) = Value.complex FloatKind.f32 (0 : Nat) (0 : Nat) ∧ Value.pointer (some (Addr.mk (AHeap.n h) (0 : Nat) (some (0 : Nat)))) = Value.pointer (some (Addr.mk (AHeap.n h) (0 : Nat) (some (0 : Nat)))) ∧ Value.complex FloatKind.f32 (1 : Nat) (0 : Nat) = Value.complex FloatKind.f32 (1 : Nat) (0 : Nat) ∧ [Value.int IntKind.i64 (Int.ofNat (0 : Nat)), Value.int IntKind.i64 (Int.ofNat (0 : Nat)), Value.int IntKind.i64 (Int.ofNat (0 : Nat)), Value.int IntKind.i64 (Int.ofNat (0 : Nat)), Value.string (ByteArray.mk (Array.mk [])), Value.slice none (0 : Nat) (0 : Nat)] = [Value.int IntKind.i64 (Int.ofNat (0 : Nat)), Value.int IntKind.i64 (Int.ofNat (0 : Nat)), Value.int IntKind.i64 (Int.ofNat (0 : Nat)), Value.int IntKind.i64 (Int.ofNat (0 : Nat)), Value.string (ByteArray.mk (Array.mk [])), Value.slice none (0 : Nat) (0 : Nat)] ∧ [Value.int IntKind.i64 x1, Value.int IntKind.i64 x2, Value.int IntKind.i64 x3, Value.int IntKind.i64 x4, Value.string x5, Value.slice (RX.A j) (RX.m j) (RX.c j)] = [Value.int IntKind.i64 x1, Value.int IntKind.i64 x2, Value.int IntKind.i64 x3, Value.int IntKind.i64 x4, Value.string x5, Value.slice (RX.A i) (RX.m i) (RX.c i)] ∧ RX.g j = RX.g i ∧ LpI changeSh (pChg t) t (AHeap.n h) (AHeap.n h + (1 : Nat)) j ∧ Kp [AHeap.n h] h (RX.g j) ∧ RX.N j = N6 ∧ RX.a1 j = a6 ∧ RX.b1 j = b6 ∧ (RX.n j = (0 : Nat) ∨ RX.b j = true))) (∃ (j : RX (Sh.T changeSh)), Value.string t = Value.string t ∧ Value.complex FloatKind.f32 (0 : Nat) (0 : Nat) = Value.complex FloatKind.f32 (0 : Nat) (0 : Nat) ∧ Value.pointer (some (Addr.mk (AHeap.n h) (0 : Nat) (some (0 : Nat)))) = Value.pointer (some (Addr.mk (AHeap.n h) (0 : Nat) (some (0 : Nat)))) ∧ Value.complex FloatKind.f32 (1 : Nat) (0 : Nat) = Value.complex FloatKind.f32 (1 : Nat) (0 : Nat) ∧ [Value.int IntKind.i64 (Int.ofNat (0 : Nat)), Value.int IntKind.i64 (Int.ofNat (0 : Nat)), Value.int IntKind.i64 (Int.ofNat (0 : Nat)), Value.int IntKind.i64 (Int.ofNat (0 : Nat)), Value.string (ByteArray.mk (Array.mk [])), Value.slice none (0 : Nat) (0 : Nat)] = [Value.int IntKind.i64 (Int.ofNat (0 : Nat)), Value.int IntKind.i64 (Int.ofNat (0 : Nat)), Value.int IntKind.i64 (Int.ofNat (0 : Nat)), Value.int IntKind.i64 (Int.ofNat (0 : Nat)), Value.string (ByteArray.mk (Array.mk [])), Value.slice none (0 : Nat) (0 : Nat)] ∧ [Value.int IntKind.i64 x1, Value.int IntKind.i64 x2, Value.int IntKind.i64 x3, Value.int IntKind.i64 x4, Value.string x5, Value.slice (RX.A j) (RX.m j) (RX.c j)] = [Value.int IntKind.i64 x1, Value.int IntKind.i64 x2, Value.int IntKind.i64 x3, Value.int IntKind.i64 x4, Value.string x5, Value.slice (RX.A i) (RX.m i) (RX.c i)] ∧ RX.g j = RX.g i ∧ LpI changeSh (pChg t) t (AHeap.n h) (AHeap.n h + (1 : Nat)) j ∧ Kp [AHeap.n h] h (RX.g j) ∧ RX.N j = N6 ∧ RX.a1 j = a6 ∧ RX.b1 j = b6 ∧ (RX.n j = (0 : Nat) ∨ RX.b j = true))) ∧ (True ∧ True ∧ True) ∧ True ∧ True) ∧ True ∧ True) = _) ?_
    simp only [true_and, and_true]
    rintro ⟨N, a1', b1', n, A, m, c, xs, ids, a', b', g⟩ ⟨I, k, rfl, rfl, rfl⟩
    dsimp only at *
    obtain ⟨_, _, d3, _⟩ := rd_ld I.rd
    have fin : ∀ P : RX changeSh.T → Prop, P ⟨N, a1', b1', n, A, m, c, xs, ids, a', b', g⟩ → ∃ j, P j := fun _ h => ⟨_, h⟩
    refine bs_d (fun hn => ⟨_, d3, bs_nb (fun hb => ?_) (fun hb => fin _ ⟨rfl, rfl, I, k, rfl, rfl, rfl, .inr hb⟩)⟩) (fun hn => fin _ ⟨rfl, rfl, I, k, rfl, rfl, rfl, .inl (by dsimp only; omega)⟩)
    subst hb
    obtain ⟨n, rfl⟩ : ∃ n', n = n' + 1 := ⟨n - 1, by omega⟩
    have hm := I.bnd
    have hl1 := I.rep.len
    have hl2 := I.small
    dsimp only at hm hl1 hl2
    obtain ⟨_, g1, A1, w1, k1, y1, y2, y3, y, J, a2, b2, rfl, S1, F1, ok1, hg1, R1⟩ := srchange_spec g I.sb.wf h.n t a' false ht I.rep.le I.rd
    obtain ⟨u, e, rfl⟩ := S1.so.sl.isSlice
    have lp := AHeap.Le.push w1 ⟨[[.int .i64 y1, .int .i64 y2, .slice u y3.length e]], 3, true⟩
    obtain ⟨l', g2, ids', e1, I2, k2, _, _⟩ := I.step hl (k1.trans (.of_le lp)) (w1.push _) (lp.get _ _ hg1) (y := (y1, y2, y3)) R1 (rn_change.2 ⟨_, J, rfl, rfl, S1.le lp⟩) (by simpa using F1.widen (Nat.le_refl _) lp.n) ok1
    refine ⟨_, _, _, _, _, _, A1, _, rowsV_lit rfl, rfl, by simp only [List.length_singleton]; omega, _, _, _, _, e1, ?_⟩
    exact ⟨⟨N, a1', b1', n, some ⟨l', 0, some 3⟩, m + 1, 0, xs ++ [(y1, y2, y3)], ids', a2, b2, g2⟩, by rw [wrap_i64 (by omega)]; dsimp only; congr 1; omega, rfl, rfl, ⟨I2, I.kp hw (Nat.le_succ _) k k2, rfl, rfl, rfl⟩, by dsimp only; omega, fun _ h => h, fun _ _ h => h⟩
  refine vc_mp (by kernel_rfl : (∃ (x : Int), ∃ (h' : AHeap), ACall Try.prog (62 : Nat) [Value.pointer (some (Addr.mk (AHeap.n h) (0 : Nat) (some (0 : Nat))))] (AHeap.push h (AObj.mk [[Value.string t, Value.int IntKind.i64 (Int.ofNat (0 : Nat)), Value.bool false]] (3 : Nat) true)) (Value.int IntKind.i64 x) h' ∧ ∃ (x_1 : Int), ∃ (h'_1 : AHeap), ACall Try.prog (62 : Nat) [Value.pointer (some (Addr.mk (AHeap.n h) (0 : Nat) (some (0 : Nat))))] h' (Value.int IntKind.i64 x_1) h'_1 ∧ ∃ (x_2 : Int), ∃ (h' : AHeap), ACall Try.prog (62 : Nat) [Value.pointer (some (Addr.mk (AHeap.n h) (0 : Nat) (some (0 : Nat))))] h'_1 (Value.int IntKind.i64 x_2) h' ∧ ∃ (x_3 : Int), ∃ (h'_2 : AHeap), ACall Try.prog (62 : Nat) [Value.pointer (some (Addr.mk (AHeap.n h) (0 : Nat) (some (0 : Nat))))] h' (Value.int IntKind.i64 x_3) h'_2 ∧ ∃ (x_4 : ByteArray), ∃ (h' : AHeap), ACall Try.prog (64 : Nat) [Value.pointer (some (Addr.mk (AHeap.n h) (0 : Nat) (some (0 : Nat))))] h'_2 (Value.string x_4) h' ∧ ∃ (x_5 : Int), ∃ (h'_3 : AHeap), ACall Try.prog (83 : Nat) [Value.pointer (some (Addr.mk (AHeap.n h) (0 : Nat) (some (0 : Nat)))), Value.int IntKind.i64 (4 : Int)] h' (Value.int IntKind.i64 x_5) h'_3 ∧ ∃ (i : RX (Sh.T changeSh)), Value.string t = Value.string t ∧ Value.complex FloatKind.f32 (0 : Nat) (0 : Nat) = Value.complex FloatKind.f32 (0 : Nat) (0 : Nat) ∧ Value.pointer (some (Addr.mk (AHeap.n h) (0 : Nat) (some (0 : Nat)))) = Value.pointer (some (Addr.mk (AHeap.n h) (0 : Nat) (some (0 : Nat)))) ∧ Value.complex FloatKind.f32 (1 : Nat) (0 : Nat) = Value.complex FloatKind.f32 (1 : Nat) (0 : Nat) ∧ Value.int IntKind.i64 x_5 = Value.int IntKind.i64 (↑(RX.n i) : Int) ∧ [Value.int IntKind.i64 (Int.ofNat (0 : Nat)), Value.int IntKind.i64 (Int.ofNat (0 : Nat)), Value.int IntKind.i64 (Int.ofNat (0 : Nat)), Value.int IntKind.i64 (Int.ofNat (0 : Nat)), Value.string (ByteArray.mk (Array.mk [])), Value.slice none (0 : Nat) (0 : Nat)] = [Value.int IntKind.i64 (Int.ofNat (0 : Nat)), Value.int IntKind.i64 (Int.ofNat (0 : Nat)), Value.int IntKind.i64 (Int.ofNat (0 : Nat)), Value.int IntKind.i64 (Int.ofNat (0 : Nat)), Value.string (ByteArray.mk (Array.mk [])), Value.slice none (0 : Nat) (0 : Nat)] ∧ [Value.int IntKind.i64 x1, Value.int IntKind.i64 x2, Value.int IntKind.i64 x3, Value.int IntKind.i64 x4, Value.string x5, Value.slice (RX.A i) (RX.m i) (RX.c i)] = [Value.int IntKind.i64 x, Value.int IntKind.i64 x_1, Value.int IntKind.i64 x_2, Value.int IntKind.i64 x_3, Value.string x_4, Value.slice none (0 : Nat) (0 : Nat)] ∧ RX.g i = h'_3 ∧ (LpI changeSh (pChg t) t (AHeap.n h) (AHeap.n h + (1 : Nat)) i ∧ Kp [AHeap.n h] h (RX.g i) ∧ RX.N i = N6 ∧ RX.a1 i = a6 ∧ RX.b1 i = b6) ∧ (∀ (j : RX (Sh.T changeSh)), LpI changeSh (pChg t) t (AHeap.n h) (AHeap.n h + (1 : Nat)) j ∧ Kp [AHeap.n h] h (RX.g j) ∧ RX.N j = N6 ∧ RX.a1 j = a6 ∧ RX.b1 j = b6 ∧ (RX.n j = (0 : Nat) ∨ RX.b j = true) → ∃ (x : Bool), AHeap.ld (RX.g j) (AHeap.n h) (0 : Nat) (2 : Nat) (1 : Nat) = some [Value.bool x] ∧ bs (!x) (bs (!decide (t = ByteArray.mk (Array.mk []))) (∃ (x : ByteArray), ∃ (h' : AHeap), ACall Try.prog (85 : Nat) [Value.agg (Array.mk [Value.int IntKind.i64 x1, Value.int IntKind.i64 x2, Value.int IntKind.i64 x3, Value.int IntKind.i64 x4, Value.string x5, Value.slice (RX.A j) (RX.m j) (RX.c j)])] (RX.g j) (Value.string x) h' ∧ Value.agg (Array.mk [Value.int IntKind.i64 x1, Value.int IntKind.i64 x2, Value.int IntKind.i64 x3, Value.int IntKind.i64 x4, Value.string x5, Value.slice (RX.A j) (RX.m j) (RX.c j)]) = Value.agg (Array.mk [Value.int IntKind.i64 x1, Value.int IntKind.i64 x2, Value.int IntKind.i64 x3, Value.int IntKind.i64 x4, Value.string x5, Value.slice (RX.A j) (RX.m j) (RX.c j)]) ∧ Q (Value.tuple (Array.mk [Value.agg (Array.mk [Value.int IntKind.i64 x1, Value.int IntKind.i64 x2, Value.int IntKind.i64 x3, Value.int IntKind.i64 x4, Value.string x5, Value.slice (RX.A j) (RX.m j) (RX.c j)]), Value.bool (decide (x = t))])) h') (Q (Value.tuple (Array.mk [Value.agg (Array.mk [Value.int IntKind.i64 x1, Value.int IntKind.i64 x2, Value.int IntKind.i64 x3, Value.int IntKind.i64 x4, Value.string x5, Value.slice (RX.A j) (RX.m j) (RX.c j)]), Value.bool false])) (RX.g j))) (Q (Value.tuple (Array.mk [Value.agg (Array.mk [Value.int IntKind.i64 x1, Value.int IntKind.i64 x2, Value.int IntKind.i64 x3, Value.int IntKind.i64 x4, Value.string x5, Value.slice (RX.A j) (RX.m j) (RX.c j)]), Value.bool false])) (RX.g j))) ∧ ∀ (v : Value) (h : AHeap), False → Q v h) = _) ?_
  refine ⟨_, _, A1, _, _, A2, _, _, A3, _, _, A4, _, _, A5, _, _, A6, ⟨N6, a6, b6, N6, none, 0, 0, [], [], a6, b6, g6⟩, rfl, rfl, rfl, rfl, rfl, rfl, rfl, rfl, ⟨.start w6 n6 (by omega) R6.le hg6, k6, rfl, rfl, rfl⟩, ?_, fun _ _ h => h.elim⟩
  rintro ⟨N, a1', b1', n, A, m, c, xs, ids, a7, b7, g⟩ ⟨I, k, rfl, rfl, rfl, hd⟩
  have R7 := I.fin hd
  have okl := I.okl
  have B := I.sb
  have hgl := I.rd
  dsimp only at *
  have le : h.Le g := k.le hw (fun z hz => by simp at hz; omega)
  obtain ⟨_, _, f2, _⟩ := rd_ld hgl
  have RS := R1.say R2 R3 R4 R5 R6 R7
  have S1 : Sn g changeSh xs (.slice A m c) ids := B.sn
  obtain ⟨_, _, es⟩ := S1.so.sl.isSlice
  cases es
  have bad : ∀ {b : Bool} {g' : AHeap}, b = false → sayDec t = none → h.Le g' → g'.wf → Q (.tuple #[.agg #[.int .i64 x1, .int .i64 x2, .int .i64 x3, .int .i64 x4, .string x5, .slice A xs.length c], .bool b]) g' := fun hb hd le' w' => by
    subst hb
    exact HQ _ _ ⟨le', w', .inl ⟨hd, _, _, _, _, _, _, _, _, rfl⟩⟩
  refine ⟨_, f2, bs_nb (fun hb => ?_) (fun hb => bad rfl (sayDec_none (RS.no rfl hb)) le B.wf)⟩
  have hp := RS.ok rfl hb
  refine bs_dn (fun hne => ?_) (fun hne => ?_)
  · obtain ⟨_, g8, A8, le8, w8, rfl⟩ := specSayBytes g B.wf x1 x2 x3 x4 x5 xs A _ S1.so.sl okl
    refine ⟨_, _, A8, rfl, ?_⟩
    cases hk : tr (SayOk x1 x2 x3 x4 x5 xs) with
    | false => exact bad (decide_eq_false (fun H => hne H.symm)) (sayDec_no hp (fun H => of_trn hk H.2)) (le.trans le8) w8
    | true =>
      by_cases he : a7 = t.size
      · have ed : decide ((bif true then sayB x1 x2 x3 x4 x5 xs else ⟨#[]⟩) = t) = true := decide_eq_true ((pSay_all hp).2 he)
        rw [ed]
        exact HQ _ _ ⟨le.trans le8, w8, .inr ⟨x1, x2, x3, x4, x5, xs, _, ids, sayDec_ok hp ⟨he, of_tr hk⟩, rfl, S1.le le8, B.fr.widen (Nat.le_succ _) le8.n⟩⟩
      · exact bad (decide_eq_false (fun H => he ((pSay_all hp).1 H))) (sayDec_no hp (fun H => he H.1)) (le.trans le8) w8
  · refine bad rfl (sayDec_no hp (fun H => ?_)) le B.wf
    have h1 := (pSay_enc hp).1
    have h2 := ba_nil.1 hne
    omega
end Go.Proofs.Ytdcijleeoihlfaa
