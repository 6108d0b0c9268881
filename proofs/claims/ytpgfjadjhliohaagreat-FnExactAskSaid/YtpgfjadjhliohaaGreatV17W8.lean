/- W8. -/
import Derived.Test.YtpgfjadjhliohaaGreatV17W7
namespace Go.Dat
open Go.Abs
def PrfRes (h : AHeap) (l : List voteSh.T) (q : Int) (r : Option (Int × ByteArray)) (P : Value → Bool → Prop) (h' : AHeap) : Prop :=
  h.Le h' ∧ h'.wf ∧ ((r = none ∧ P (.agg #[.int .i64 (Int.ofNat 0), .int .i64 (Int.ofNat 0), .string ⟨#[]⟩, .slice none 0 0]) false) ∨
    ∃ (v : Int) (op : ByteArray) (a : Option Addr) (c : Nat) (js : List Nat), r = some (v, op) ∧ P (.agg #[.int .i64 v, .int .i64 q, .string op, .slice a (votersM l 2 v q op).length c]) true ∧ Sn h' Sh.int (votersM l 2 v q op) (.slice a (votersM l 2 v q op).length c) js ∧ Fresh h.n h'.n js)
theorem rn_prf {h : AHeap} {a b : Int} {op : ByteArray} {by_ : List Sh.int.T} {v : Value} {js : List Nat} (s : Sn h Sh.int by_ v js) : Sh.rn h proofSh (a, b, op, by_) [.int .i64 a, .int .i64 b, .string op, v] js :=
  ⟨[.int .i64 a], [.int .i64 b, .string op, v], [], js, rfl, rfl, ⟨rfl, rfl⟩, [.int .i64 b], [.string op, v], [], js, rfl, rfl, ⟨rfl, rfl⟩, [.string op], [v], [], js, rfl, rfl, ⟨rfl, rfl⟩, rn_sl.2 ⟨v, rfl, s⟩⟩
end Go.Dat
namespace Go.Proofs.YtpgfjadjhliohaaGreat
open Go.Abs Go.Dat
set_option maxRecDepth 100000
set_option maxHeartbeats 8000000
def spL (h : AHeap) (a : Option Addr) (c : Nat) (l : List voteSh.T) (v q : Int) (o : OX ByteArray) : LSpec where
  ι := Nat × AHeap
  κ := AHeap
  I := fun i => i.1 ≤ o.xs.length ∧ o.g.Le i.2 ∧ i.2.wf ∧ ∀ (j : Nat) (t : ByteArray), j < i.1 → o.xs[j]? = some t → ¬ 3 ≤ (votersM l 2 v q t).length
  μ := fun i => o.xs.length - i.1
  head := fun i => ⟨[(0, .slice a l.length c), (1, .int .i64 v), (2, .int .i64 q), (6, .complex .f32 0 0), (8, .slice o.a o.xs.length o.c), (9, .int .i64 i.1)], [[.int .i64 (Int.ofNat 0), .int .i64 (Int.ofNat 0), .string ⟨#[]⟩, .slice none 0 0]], i.2⟩
  post := fun g => ⟨[(6, .complex .f32 0 0)], [[.int .i64 (Int.ofNat 0), .int .i64 (Int.ofNat 0), .string ⟨#[]⟩, .slice none 0 0]], g⟩
  R := fun _ g => o.g.Le g ∧ g.wf ∧ ∀ t ∈ o.xs, ¬ 3 ≤ (votersM l 2 v q t).length
  ret := fun _ r g => ∃ (op : ByteArray) (b : OX Int), o.g.Le g ∧ g.wf ∧ 3 ≤ (votersM l 2 v q op).length ∧ r = .tuple #[.agg #[.int .i64 v, .int .i64 q, .string op, .slice b.a b.xs.length b.c], .bool true] ∧ g = b.g ∧ OXok Sh.int o.g b ∧ b.xs = votersM l 2 v q op
def Qdj (a b c d e : Prop) := a ∧ b ∧ c ∧ d ∧ e
def Qdk (a b c d : Prop) := a ∧ b ∧ c ∧ d
def Qdl (a : Prop) := True ∧ a ∧ True
def Qdm := (2 : Int)
def Qdn (a : Prop) (b : List (Sh.T voteSh)) (c d : Int) (e : ByteArray) := a → Not (3 ≤ List.length (votersM b Qdm c d e))
def Qdo (a : OX ByteArray) (b : ByteArray) := Membership.mem (OX.xs a) b
def Qdp := (0 : Nat)
def Qdq := Value.string (ByteArray.mk (Array.mk List.nil))
def Qdr (a : Int) := Value.int IntKind.i64 a
def Qds := [Qdr (Int.ofNat Qdp), Qdr (Int.ofNat Qdp), Qdq, Value.slice none Qdp Qdp]
def Qdt := Value.complex FloatKind.f32 Qdp Qdp
def Qdu (a b : Int) := Qdr a = Qdr b
def Qdv (a : Option Addr) (b : List (Sh.T voteSh)) (c : Nat) := Value.slice a (List.length b) c
def Qdw (a : Option Addr) (b : List (Sh.T voteSh)) (c : Nat) (d : Option Addr) (e : List (Sh.T voteSh)) (f : Nat) (g h i j : Int) (k l : Prop) := Qdj (Qdv a b c = Qdv d e f) (Qdu g h) (Qdu i j) k l
def Qdx (a : OX ByteArray) (b c : AHeap) (d : List (Sh.T voteSh)) (e f : Int) (g : ByteArray) (h i : Prop) (j : OX ByteArray) (k : OX (Sh.T Sh.int)) (l : Prop) := Qdj (AHeap.Le (OX.g a) b) (AHeap.wf c) (3 ≤ List.length (votersM d Qdm e f g)) h (i ∧ OXok Sh.int (OX.g j) k ∧ l)
def Qdy (a : List Value) := Value.tuple (Array.mk a)
def Qdz (a b : Int) (c : ByteArray) (d e f : OX Int) := Qdy [Value.agg (Array.mk [Qdr a, Qdr b, Value.string c, Value.slice (OX.a d) (List.length (OX.xs e)) (OX.c f)]), Value.bool true]
def Qe0 (a b c : AHeap) (d : Prop) := AHeap.Le a b ∧ AHeap.wf c ∧ d
def Qe1 (a : OX ByteArray) := List.length (OX.xs a)
def Qe2 (a : Nat × AHeap) (b c : OX ByteArray) (d e : Nat × AHeap) (f : Prop) := Qdk (Prod.fst a ≤ Qe1 b) (AHeap.Le (OX.g c) (Prod.snd d)) (AHeap.wf (Prod.snd e)) f
def Qe3 (a : OX ByteArray) (b : Nat) (c : ByteArray) := getElem? (OX.xs a) b = some c
def Qe4 (a : Nat × AHeap) := (↑(Prod.fst a) : Int)
def Qe5 (a : Int) := IntKind.wrap IntKind.i64 a
def Qe6 (a b c : OX ByteArray) := Value.slice (OX.a a) (Qe1 b) (OX.c c)
def Qe7 := (1 : Nat)
def Qe8 (a b : Nat) := some (Addr.mk a b (some Qe7))
theorem l11Proof_spec (h : AHeap) (hw : h.wf) (a : Option Addr) (c : Nat) (l : List voteSh.T) (v q : Int) (hx : Sl h voteSh l (.slice a l.length c)) (H : VotsOk l) :
    ∃ r h', ACall Tryz.prog 105 [.slice a l.length c, .int .i64 v, .int .i64 q] h r h' ∧ PrfRes h l q ((provedM l 2 v q).map fun op => (v, op)) (fun p b => r = .tuple #[p, .bool b]) h' := by
  obtain ⟨_, _, A0, o, rfl, rfl, B, hm, h4⟩ := l11Ops_spec h hw a c l 2 v q hx H
  refine acall_q fun Q HQ => ?_
  refine acall_vc (fun _ => false) (fun _ => []) (fun _ => spL h a c l v q o) mixed Tryz.func105 rfl rfl rfl (Nat.le_of_ble_eq_true rfl) ?_ ?_
  · (refine vc_mp (by kernel_rfl : (Qdj True True (Qdj True (∀ (i : Nat × AHeap), Qe2 i o o i i (∀ (j : Nat) (t : ByteArray), j < Prod.fst i → Qdn (Qe3 o j t) l v q t) → bs (decide (Qe4 i < (↑(Qe1 o) : Int))) (∃ (l_1 r : Nat), Qdk (OX.a o = Qe8 l_1 r) (0 ≤ Qe4 i) (Qe4 i < (↑(Qe1 o) : Int)) (∃ (x : ByteArray), AHeap.ld (Prod.snd i) l_1 (r + Int.toNat (Qe4 i)) Qdp Qe7 = some [Value.string x] ∧ (∃ (a_2 : Option Addr) (n c_1 : Nat) (h' : AHeap), ACall Tryz.prog 144 [Qdv a l c, Qdr Qdm, Qdr v, Qdr q, Value.string x] (Prod.snd i) (Value.slice a_2 n c_1) h' ∧ bs (decide ((↑n : Int) ≥ 3)) (∃ (l_2 r : Nat), Qdk (OX.a o = Qe8 l_2 r) (0 ≤ Qe4 i) (Qe4 i < (↑(Qe1 o) : Int)) (∃ (x : ByteArray), AHeap.ld h' l_2 (r + Int.toNat (Qe4 i)) Qdp Qe7 = some [Value.string x] ∧ (∃ (op : ByteArray) (b : OX Int), Qdx o h' h' l v q op (Qdy [Value.agg (Array.mk [Qdr v, Qdr q, Value.string x, Value.slice a_2 n c_1]), Value.bool true] = Qdz v q op b b b) (h' = OX.g b) o b (OX.xs b = votersM l Qdm v q op)))) (∃ (j : Nat × AHeap), Qdw a l c a l c v v q q (Qdt = Qdt) (Qdj (Qe6 o o o = Qe6 o o o) (Qdu (Qe5 (Qe4 i + 1)) (Qe4 j)) (Qds = Qds) (Prod.snd j = h') (Qdk (Qe2 j o o j j (∀ (j_1 : Nat) (t : ByteArray), j_1 < Prod.fst j → Qdn (Qe3 o j_1 t) l v q t)) (Qe1 o - Prod.fst j < Qe1 o - Prod.fst i) (∀ (k : AHeap), Qe0 (OX.g o) k k (∀ (t : ByteArray), Qdn (Qdo o t) l v q t) → Qe0 (OX.g o) k k (∀ (t : ByteArray), Qdn (Qdo o t) l v q t)) (∀ (v_1 : Value) (h : AHeap), (∃ (op : ByteArray) (b : OX Int), Qdx o h h l v q op (v_1 = Qdz v q op b b b) (h = OX.g b) o b (OX.xs b = votersM l Qdm v q op)) → (∃ (op : ByteArray) (b : OX Int), Qdx o h h l v q op (v_1 = Qdz v q op b b b) (h = OX.g b) o b (OX.xs b = votersM l Qdm v q op))))))))) (∃ (j : AHeap), Qdj (Qdt = Qdt) (Qds = Qds) (j = Prod.snd i) (AHeap.Le (OX.g o) j) (AHeap.wf j ∧ (∀ (t : ByteArray), Qdn (Qdo o t) l v q t)))) (Qdl True) (Qdk True True (True ∧ True) True) True) True True) = _) ?_; delta Qdj Qdk Qdl Qdm Qdn Qdo Qdp Qdq Qdr Qds Qdt Qdu Qdv Qdw Qdx Qdy Qdz Qe0 Qe1 Qe2 Qe3 Qe4 Qe5 Qe6 Qe7 Qe8)
    simp only [true_and, and_true]
    refine fun ⟨i, g⟩ ⟨hi, le, wf, hall⟩ => ?_
    dsimp only at *
    refine bs_d (fun hlt => ?_) (fun hge => ⟨g, rfl, le, wf, fun t ht => ?_⟩)
    · obtain ⟨t, hat⟩ : ∃ y : ByteArray, o.xs[i]? = some y := ⟨_, List.getElem?_eq_getElem (by omega)⟩
      obtain ⟨lo, r, row, ha, _, hrd, hld⟩ := (B.sn.so.sl.mono le).elem hat
      obtain rfl : row = [.string t] := hrd
      obtain ⟨_, g2, A2, b, rfl, eg, Bb, hb⟩ := l11Voters_spec g wf a c l 2 v q t (hx.mono (B.le.trans le)) H
      rw [eg] at A2
      have le2 : g.Le b.g := Bb.le
      refine ⟨lo, r, ha, Int.natCast_nonneg _, hlt, _, hld, _, _, _, _, A2, bs_d (fun e => ?_) (fun e => ?_)⟩
      · exact ⟨lo, r, ha, Int.natCast_nonneg _, hlt, _, le2.ld hld, t, b, le.trans le2, Bb.wf, by rw [← hb]; omega, rfl, rfl, SoB.rebase Bb le B.wf, hb⟩
      · refine ⟨(i + 1, b.g), by rw [wrap_i64 (by omega)]; rfl, rfl, ⟨by dsimp only; omega, le.trans le2, Bb.wf, fun j u hj hu => ?_⟩, by dsimp only; omega, fun _ h => h, fun _ _ h => h⟩
        by_cases c1 : j = i
        · subst c1; rw [hat] at hu; cases hu; rw [← hb]; omega
        · exact hall j u (by dsimp only at hj; omega) hu
    · obtain ⟨j, hj⟩ := List.mem_iff_getElem?.1 ht
      have := (List.getElem?_eq_some_iff.1 hj).1
      exact hall j t (by omega) hj
  (refine vc_mp (by kernel_rfl : (∃ (a_1 : Option Addr) (n c_1 : Nat) (h' : AHeap), ACall Tryz.prog 143 [Qdv a l c, Qdr Qdm, Qdr v, Qdr q] h (Value.slice a_1 n c_1) h' ∧ (∃ (i : Nat × AHeap), Qdw a l c a l c v v q q (Qdt = Qdt) (Qdj (Value.slice a_1 n c_1 = Qe6 o o o) (Qdu 0 (Qe4 i)) (Qds = Qds) (Prod.snd i = h') (Qe2 i o o i i (∀ (j : Nat) (t : ByteArray), j < Prod.fst i → Qdn (Qe3 o j t) l v q t) ∧ (∀ (j : AHeap), Qe0 (OX.g o) j j (∀ (t : ByteArray), Qdn (Qdo o t) l v q t) → Q (Qdy [Value.agg (Array.mk Qds), Value.bool false]) j) ∧ (∀ (v_1 : Value) (h : AHeap), (∃ (op : ByteArray) (b : OX Int), Qdx o h h l v q op (v_1 = Qdz v q op b b b) (h = OX.g b) o b (OX.xs b = votersM l Qdm v q op)) → Q v_1 h))))) = _) ?_; delta Qdj Qdk Qdm Qdn Qdo Qdp Qdq Qdr Qds Qdt Qdu Qdv Qdw Qdx Qdy Qdz Qe0 Qe1 Qe2 Qe3 Qe4 Qe6)
  refine ⟨_, _, _, _, A0, (0, o.g), rfl, rfl, rfl, rfl, rfl, rfl, rfl, rfl, ⟨Nat.zero_le _, .refl _, B.wf, fun j t hj => absurd hj (Nat.not_lt_zero _)⟩, fun g ⟨le, wf, hno⟩ => HQ _ _ ⟨B.le.trans le, wf, .inl ⟨?_, rfl⟩⟩, fun _ _ ⟨op, b, le, wf, hq, e, eg, Bb, hb⟩ => HQ _ _ ⟨B.le.trans le, wf, .inr ⟨v, op, b.a, b.c, b.ids, ?_, ?_, ?_, ?_⟩⟩⟩
  · rw [provedM_none fun t ht => hno t ((hm t).2 ht)]; rfl
  · rw [provedM_some H hq]; rfl
  · rw [e, hb]
  · have s := OXok.sn Bb
    rw [hb] at s
    rw [eg]; exact s
  · rw [eg]; exact Bb.fr.widen B.le.n (Nat.le_refl _)
def sdL (h : AHeap) (a : Option Addr) (c : Nat) (l : List voteSh.T) (q : Int) : Nat → LSpec
  | 0 => {
    ι := Nat × AHeap
    κ := AHeap
    I := fun i => i.1 ≤ 8 ∧ h.Le i.2 ∧ i.2.wf ∧ decM l q i.1 = none
    μ := fun i => 8 - i.1
    head := fun i => ⟨[(0, .slice a l.length c), (1, .int .i64 q), (6, .int .i64 i.1)], [], i.2⟩
    post := fun g => ⟨[], [], g⟩
    R := fun _ g => h.Le g ∧ g.wf ∧ decM l q 8 = none
    ret := fun _ r g => h.Le g ∧ g.wf ∧ ∃ op, decM l q 8 = some op ∧ r = .tuple #[.string op, .bool true] }
  | _ => {
    ι := Nat × OX ByteArray × Nat × AHeap
    κ := Nat × AHeap
    I := fun i => i.1 < 8 ∧ h.Le i.2.1.g ∧ i.2.1.g.Le i.2.2.2 ∧ i.2.2.2.wf ∧ decM l q i.1 = none ∧ i.2.2.1 ≤ i.2.1.xs.length ∧ i.2.1.xs.length ≤ 400 ∧ Sl i.2.1.g Sh.str i.2.1.xs (.slice i.2.1.a i.2.1.xs.length i.2.1.c) ∧ (∀ t, t ∈ i.2.1.xs ↔ ∃ f, (3, (i.1 : Int), q, t, f) ∈ l) ∧ ∀ (j : Nat) (t : ByteArray), j < i.2.2.1 → i.2.1.xs[j]? = some t → ¬ 3 ≤ (votersM l 3 i.1 q t).length
    μ := fun i => i.2.1.xs.length - i.2.2.1
    head := fun i => ⟨[(0, .slice a l.length c), (1, .int .i64 q), (6, .int .i64 i.1), (7, .slice i.2.1.a i.2.1.xs.length i.2.1.c), (8, .int .i64 i.2.2.1)], [], i.2.2.2⟩
    post := fun i => ⟨[(0, .slice a l.length c), (1, .int .i64 q), (6, .int .i64 i.1)], [], i.2⟩
    R := fun i g => g.1 = i.1 ∧ h.Le g.2 ∧ g.2.wf ∧ decM l q (i.1 + 1) = none
    ret := fun _ r g => h.Le g ∧ g.wf ∧ ∃ op, decM l q 8 = some op ∧ r = .tuple #[.string op, .bool true] }
def Qe9 (a : Prop) (b : AHeap) (c d : Nat × AHeap) (e : List (Sh.T voteSh)) (f : Int) (g : Nat) := Qdk a (AHeap.Le b (Prod.snd c)) (AHeap.wf (Prod.snd d)) (decM e f g = none)
def Qea (a : Nat × OX ByteArray × Nat × AHeap) := Prod.snd (Prod.snd a)
def Qeb (a : Nat × OX ByteArray × Nat × AHeap) := Prod.snd (Qea a)
def Qec (a : Nat × OX ByteArray × Nat × AHeap) := (↑(Prod.fst a) : Int)
def Qed (a : ByteArray) := Qdy [Value.string a, Value.bool true]
def Qee := (8 : Nat)
def Qef (a : List (Sh.T voteSh)) (b : Int) (c : ByteArray) (d : Value) (e : ByteArray) := decM a b Qee = some c ∧ d = Qed e
def Qeg (a : Nat × OX ByteArray × Nat × AHeap) := Prod.fst (Qea a)
def Qeh (a : Nat × OX ByteArray × Nat × AHeap) := Prod.fst (Prod.snd a)
def Qei (a : Nat × OX ByteArray × Nat × AHeap) := Qe1 (Qeh a)
def Qej (a : Prop) (b : AHeap) (c d e f : Nat × OX ByteArray × Nat × AHeap) (g h i j k l : Prop) := Qdj a (AHeap.Le b (OX.g (Qeh c))) (AHeap.Le (OX.g (Qeh d)) (Prod.snd (Qea e))) (AHeap.wf (Prod.snd (Qea f))) (Qdj g h i j (k ∧ l))
def Qek (a : List (Sh.T voteSh)) (b : Nat × OX ByteArray × Nat × AHeap) (c : Int) (d : ByteArray) := Not (3 ≤ List.length (votersM a 3 (Qec b) c d))
def Qel (a : List (Sh.T voteSh)) (b : Nat × OX ByteArray × Nat × AHeap) (c : Int) (d : ByteArray) (e : Sh.T Sh.int) := Membership.mem a (Prod.mk 3 (Prod.mk (Qec b) (Prod.mk c (Prod.mk d e))))
def Qem (a b c : Nat × OX ByteArray × Nat × AHeap) := Qe6 (Qeh a) (Qeh b) (Qeh c)
def Qen (a : Nat × OX ByteArray × Nat × AHeap) := Qe4 (Qea a)
def Qeo (a : List (Sh.T voteSh)) (b : Int) := decM a b Qee = none
theorem l11Decided_spec (h : AHeap) (hw : h.wf) (a : Option Addr) (c : Nat) (l : List voteSh.T) (q : Int) (hx : Sl h voteSh l (.slice a l.length c)) (H : VotsOk l) :
    ∃ r h', ACall Tryz.prog 106 [.slice a l.length c, .int .i64 q] h r h' ∧ h.Le h' ∧ h'.wf ∧ ((decM l q 8 = none ∧ r = .tuple #[.string ⟨#[]⟩, .bool false]) ∨ ∃ op, decM l q 8 = some op ∧ r = .tuple #[.string op, .bool true]) := by
  refine acall_q fun Q HQ => ?_
  refine acall_vc (fun _ => false) (fun _ => []) (sdL h a c l q) mixed Tryz.func106 rfl rfl rfl (Nat.le_of_ble_eq_true rfl) ?_ ?_
  · (refine vc_mp (by kernel_rfl : (Qdk True (Qdj True (∀ (i : Nat × AHeap), Qe9 (Prod.fst i ≤ Qee) h i i l q (Prod.fst i) → bs (decide (Qe4 i ≤ 7)) (∃ (a_2 : Option Addr) (n c_1 : Nat) (h' : AHeap), ACall Tryz.prog 143 [Qdv a l c, Qdr 3, Qdr (Qe4 i), Qdr q] (Prod.snd i) (Value.slice a_2 n c_1) h' ∧ (∃ (i_1 : Nat × OX ByteArray × Nat × AHeap), Qdw a l c a l c q q (Qe4 i) (Qec i_1) (Value.slice a_2 n c_1 = Qem i_1 i_1 i_1) (Qdj (Qdu 0 (Qen i_1)) (Qeb i_1 = h') (Qej (Prod.fst i_1 < Qee) h i_1 i_1 i_1 i_1 (decM l q (Prod.fst i_1) = none) (Qeg i_1 ≤ Qei i_1) (Qei i_1 ≤ 400) (Sl (OX.g (Qeh i_1)) Sh.str (OX.xs (Prod.fst (Prod.snd i_1))) (Qem i_1 i_1 i_1)) (∀ (t : ByteArray), Iff (Qdo (Qeh i_1) t) (∃ (f : Sh.T Sh.int), Qel l i_1 q t f)) (∀ (j : Nat) (t : ByteArray), j < Qeg i_1 → Qe3 (Qeh i_1) j t → Qek l i_1 q t)) (∀ (j : Nat × AHeap), Qe9 (Prod.fst j = Prod.fst i_1) h j j l q (Prod.fst i_1 + Qe7) → (∃ (j_1 : Nat × AHeap), Qdw a l c a l c q q (Qe5 (Qe4 j + 1)) (Qe4 j_1) (Prod.snd j_1 = Prod.snd j) (Qdk (Qe9 (Prod.fst j_1 ≤ Qee) h j_1 j_1 l q (Prod.fst j_1)) (Qee - Prod.fst j_1 < Qee - Prod.fst i) (∀ (k : AHeap), Qe0 h k k (Qeo l q) → Qe0 h k k (Qeo l q)) (∀ (v : Value) (h_1 : AHeap), Qe0 h h_1 h_1 (∃ (op : ByteArray), Qef l q op v op) → Qe0 h h_1 h_1 (∃ (op : ByteArray), Qef l q op v op))))) (∀ (v : Value) (h_1 : AHeap), Qe0 h h_1 h_1 (∃ (op : ByteArray), Qef l q op v op) → Qe0 h h_1 h_1 (∃ (op : ByteArray), Qef l q op v op))))) (∃ (j : AHeap), Qdk (j = Prod.snd i) (AHeap.Le h j) (AHeap.wf j) (Qeo l q))) (Qdl True) (Qdj True True (∀ (i : Nat × OX ByteArray × Nat × AHeap), Qej (Prod.fst i < Qee) h i i i i (decM l q (Prod.fst i) = none) (Qeg i ≤ Qei i) (Qei i ≤ 400) (Sl (OX.g (Qeh i)) Sh.str (OX.xs (Prod.fst (Prod.snd i))) (Qem i i i)) (∀ (t : ByteArray), Iff (Qdo (Qeh i) t) (∃ (f : Sh.T Sh.int), Qel l i q t f)) (∀ (j : Nat) (t : ByteArray), j < Qeg i → Qe3 (Qeh i) j t → Qek l i q t) → bs (decide (Qen i < (↑(Qei i) : Int))) (∃ (l_1 r : Nat), Qdk (OX.a (Qeh i) = Qe8 l_1 r) (0 ≤ Qen i) (Qen i < (↑(Qei i) : Int)) (∃ (x : ByteArray), AHeap.ld (Qeb i) l_1 (r + Int.toNat (Qen i)) Qdp Qe7 = some [Value.string x] ∧ (∃ (a_2 : Option Addr) (n c_1 : Nat) (h' : AHeap), ACall Tryz.prog 144 [Qdv a l c, Qdr 3, Qdr (Qec i), Qdr q, Value.string x] (Qeb i) (Value.slice a_2 n c_1) h' ∧ bs (decide ((↑n : Int) ≥ 3)) (∃ (l_2 r : Nat), Qdk (OX.a (Qeh i) = Qe8 l_2 r) (0 ≤ Qen i) (Qen i < (↑(Qei i) : Int)) (∃ (x : ByteArray), Qdk (AHeap.ld h' l_2 (r + Int.toNat (Qen i)) Qdp Qe7 = some [Value.string x]) (AHeap.Le h h') (AHeap.wf h') (∃ (op : ByteArray), Qef l q op (Qed x) op))) (∃ (j : Nat × OX ByteArray × Nat × AHeap), Qdw a l c a l c q q (Qec i) (Qec j) (Qem i i i = Qem j j j) (Qdj (Qdu (Qe5 (Qen i + 1)) (Qen j)) (Qeb j = h') (Qej (Prod.fst j < Qee) h j j j j (decM l q (Prod.fst j) = none) (Qeg j ≤ Qei j) (Qei j ≤ 400) (Sl (OX.g (Qeh j)) Sh.str (OX.xs (Prod.fst (Prod.snd j))) (Qem j j j)) (∀ (t : ByteArray), Iff (Qdo (Qeh j) t) (∃ (f : Sh.T Sh.int), Qel l j q t f)) (∀ (j_1 : Nat) (t : ByteArray), j_1 < Qeg j → Qe3 (Qeh j) j_1 t → Qek l j q t)) (Qei j - Qeg j < Qei i - Qeg i) ((∀ (k : Nat × AHeap), Qe9 (Prod.fst k = Prod.fst j) h k k l q (Prod.fst j + Qe7) → Qe9 (Prod.fst k = Prod.fst i) h k k l q (Prod.fst i + Qe7)) ∧ (∀ (v : Value) (h_1 : AHeap), Qe0 h h_1 h_1 (∃ (op : ByteArray), Qef l q op v op) → Qe0 h h_1 h_1 (∃ (op : ByteArray), Qef l q op v op)))))))) (∃ (j : Nat × AHeap), Qdw a l c a l c q q (Qec i) (Qe4 j) (Prod.snd j = Qeb i) (Qe9 (Prod.fst j = Prod.fst i) h j j l q (Prod.fst i + Qe7)))) (Qdl True) (Qdl (True ∧ True) ∧ True)) True) True True) = _) ?_; delta Qdj Qdk Qdl Qdo Qdp Qdr Qdu Qdv Qdw Qdy Qe0 Qe1 Qe3 Qe4 Qe5 Qe6 Qe7 Qe8 Qe9 Qea Qeb Qec Qed Qee Qef Qeg Qeh Qei Qej Qek Qel Qem Qen Qeo)
    simp only [true_and, and_true]
    refine ⟨fun ⟨v, g⟩ ⟨hv, le, wf, hd⟩ => ?_, fun ⟨v, o, i, g⟩ ⟨hv, le0, le, wf, hd, hi, h4, hs, hm, hall⟩ => ?_⟩
    · dsimp only at *
      refine bs_d (fun hle => ?_) (fun hgt => ⟨g, rfl, le, wf, by rw [show v = 8 by omega] at hd; exact hd⟩)
      obtain ⟨_, g2, A2, o, rfl, eg, B, hm, h4⟩ := l11Ops_spec g wf a c l 3 v q (hx.mono le) H
      rw [eg] at A2
      refine ⟨_, _, _, _, A2, (v, o, 0, o.g), rfl, rfl, rfl, rfl, ⟨by dsimp only; omega, le.trans B.le, .refl _, B.wf, hd, Nat.zero_le _, h4, B.sn.so.sl, hm, fun j t hj => absurd hj (Nat.not_lt_zero _)⟩, fun ⟨v', g'⟩ ⟨e, le', w', hd'⟩ => ?_, fun _ _ h => h⟩
      dsimp only at e le' w' hd'
      subst e
      exact ⟨(v' + 1, g'), by rw [wrap_i64 (by omega)]; rfl, rfl, ⟨by dsimp only; omega, le', w', hd'⟩, by dsimp only; omega, fun _ h => h, fun _ _ h => h⟩
    · dsimp only at *
      refine bs_d (fun hlt => ?_) (fun hge => ⟨(v, g), rfl, rfl, rfl, le0.trans le, wf, decM_miss hd (provedM_none fun t ht => ?_)⟩)
      · obtain ⟨t, hat⟩ : ∃ y : ByteArray, o.xs[i]? = some y := ⟨_, List.getElem?_eq_getElem (by omega)⟩
        obtain ⟨lo, r, row, ha, _, hrd, hld⟩ := (hs.mono le).elem hat
        obtain rfl : row = [.string t] := hrd
        obtain ⟨_, g2, A2, b, rfl, eg, Bb, hb⟩ := l11Voters_spec g wf a c l 3 v q t (hx.mono (le0.trans le)) H
        rw [eg] at A2
        have le2 : g.Le b.g := Bb.le
        refine ⟨lo, r, ha, Int.natCast_nonneg _, hlt, _, hld, _, _, _, _, A2, bs_d (fun e => ?_) (fun e => ?_)⟩
        · exact ⟨lo, r, ha, Int.natCast_nonneg _, hlt, _, le2.ld hld, (le0.trans le).trans le2, Bb.wf, t, decM_stay (decM_hit hd (provedM_some H (by rw [← hb]; omega))) 8 (by omega), rfl⟩
        · refine ⟨(v, o, i + 1, b.g), rfl, rfl, by rw [wrap_i64 (by omega)]; rfl, rfl, ⟨hv, le0, le.trans le2, Bb.wf, hd, by dsimp only; omega, h4, hs, hm, fun j u hj hu => ?_⟩, by dsimp only; omega, fun _ h => h, fun _ _ h => h⟩
          dsimp only at hj hu ⊢
          by_cases c1 : j = i
          · subst c1; rw [hat] at hu; cases hu; rw [← hb]; omega
          · exact hall j u (by omega) hu
      · obtain ⟨j, hj⟩ := List.mem_iff_getElem?.1 ((hm t).2 ht)
        have := (List.getElem?_eq_some_iff.1 hj).1
        exact hall j t (by omega) hj
  (refine vc_mp (by kernel_rfl : (∃ (i : Nat × AHeap), Qdw a l c a l c q q 0 (Qe4 i) (Prod.snd i = h) (Qe9 (Prod.fst i ≤ Qee) h i i l q (Prod.fst i) ∧ (∀ (j : AHeap), Qe0 h j j (Qeo l q) → Q (Qdy [Qdq, Value.bool false]) j) ∧ (∀ (v : Value) (h_1 : AHeap), Qe0 h h_1 h_1 (∃ (op : ByteArray), Qef l q op v op) → Q v h_1))) = _) ?_; delta Qdj Qdk Qdq Qdr Qdu Qdv Qdw Qdy Qe0 Qe4 Qe9 Qed Qee Qef Qeo)
  exact ⟨(0, h), rfl, rfl, rfl, rfl, ⟨by dsimp only; omega, .refl _, hw, rfl⟩, fun g ⟨le, wf, hd⟩ => HQ _ _ ⟨le, wf, .inl ⟨hd, rfl⟩⟩, fun _ _ ⟨le, wf, op, hd, e⟩ => HQ _ _ ⟨le, wf, .inr ⟨op, hd, e⟩⟩⟩
end Go.Proofs.YtpgfjadjhliohaaGreat
