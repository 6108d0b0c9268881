/- W8. -/
import Derived.Test.YtpgfjadjhliohaaGreatV18W7
namespace Go.Dat
open Go.Abs
def PrfRes (h : AHeap) (l : List voteSh.T) (q : Int) (r : Option (Int × ByteArray)) (P : Value → Bool → Prop) (h' : AHeap) : Prop :=
  h.Le h' ∧ h'.wf ∧ ((r = none ∧ P (.agg #[.int .i64 (Int.ofNat 0), .int .i64 (Int.ofNat 0), .string ⟨#[]⟩, .slice none 0 0]) false) ∨
    ∃ (v : Int) (op : ByteArray) (a : Option Addr) (c : Nat) (js : List Nat), r = some (v, op) ∧ P (.agg #[.int .i64 v, .int .i64 q, .string op, .slice a (votersM l 2 v q op).length c]) true ∧ Sn h' Sh.int (votersM l 2 v q op) (.slice a (votersM l 2 v q op).length c) js ∧ Fresh h.n h'.n js)
theorem rn_prf {h : AHeap} {a b : Int} {op : ByteArray} {by_ : List Sh.int.T} {v : Value} {js : List Nat} (s : Sn h Sh.int by_ v js) : Sh.rn h proofSh (a, b, op, by_) [.int .i64 a, .int .i64 b, .string op, v] js :=
  ⟨[.int .i64 a], [.int .i64 b, .string op, v], [], js, rfl, rfl, ⟨rfl, rfl⟩, [.int .i64 b], [.string op, v], [], js, rfl, rfl, ⟨rfl, rfl⟩, [.string op], [v], [], js, rfl, rfl, ⟨rfl, rfl⟩, rn_sl.2 ⟨v, rfl, s⟩⟩
end Go.Dat
namespace Go.Proofs.YtpgfjadjhliohaaGreat
open Go.Abs Go.Dat
set_option maxRecDepth 100000
set_option maxHeartbeats 8000000
def spL (h : AHeap) (a : Option Addr) (c : Nat) (l : List voteSh.T) (v q : Int) (o : OX ByteArray) : LSpec where
  ι := Nat × AHeap
  κ := AHeap
  I := fun i => i.1 ≤ o.xs.length ∧ o.g.Le i.2 ∧ i.2.wf ∧ ∀ (j : Nat) (t : ByteArray), j < i.1 → o.xs[j]? = some t → ¬ 3 ≤ (votersM l 2 v q t).length
  μ := fun i => o.xs.length - i.1
  head := fun i => ⟨[(0, .slice a l.length c), (1, .int .i64 v), (2, .int .i64 q), (6, .complex .f32 0 0), (8, .slice o.a o.xs.length o.c), (9, .int .i64 i.1)], [[.int .i64 (Int.ofNat 0), .int .i64 (Int.ofNat 0), .string ⟨#[]⟩, .slice none 0 0]], i.2⟩
  post := fun g => ⟨[(6, .complex .f32 0 0)], [[.int .i64 (Int.ofNat 0), .int .i64 (Int.ofNat 0), .string ⟨#[]⟩, .slice none 0 0]], g⟩
  R := fun _ g => o.g.Le g ∧ g.wf ∧ ∀ t ∈ o.xs, ¬ 3 ≤ (votersM l 2 v q t).length
  ret := fun _ r g => ∃ (op : ByteArray) (b : OX Int), o.g.Le g ∧ g.wf ∧ 3 ≤ (votersM l 2 v q op).length ∧ r = .tuple #[.agg #[.int .i64 v, .int .i64 q, .string op, .slice b.a b.xs.length b.c], .bool true] ∧ g = b.g ∧ OXok Sh.int o.g b ∧ b.xs = votersM l 2 v q op
abbrev Qh3 := List (Sh.T voteSh)
abbrev Qh4 := ByteArray
abbrev Qh5 := OX ByteArray
abbrev Qh6 := Nat × AHeap
abbrev Qh7 := Nat × OX ByteArray × Nat × AHeap
def Qfw (a b c d e : Prop) := a ∧ b ∧ c ∧ d ∧ e
def Qfx (a b c d : Prop) := a ∧ b ∧ c ∧ d
def Qfy (a : Prop) := True ∧ a ∧ True
def Qfz (a : Qh3) (b c : Int) (d : Qh4) := 3 ≤ List.length (votersM a 2 b c d)
def Qg0 (a : Qh5) (b : Qh4) (c : Qh3) (d e : Int) := Membership.mem (OX.xs a) b → Not (Qfz c d e b)
def Qg1 := (0 : Nat)
def Qg2 := Value.string (ByteArray.mk (Array.mk List.nil))
def Qg3 (a : Int) := Value.int IntKind.i64 a
def Qg4 := [Qg3 (Int.ofNat Qg1), Qg3 (Int.ofNat Qg1), Qg2, Value.slice none Qg1 Qg1]
def Qg5 := Value.complex FloatKind.f32 Qg1 Qg1
def Qg6 (a b : Int) := Qg3 a = Qg3 b
def Qg7 (a : Option Addr) (b : Qh3) (c : Nat) := Value.slice a (List.length b) c
def Qg8 (a : Option Addr) (b : Qh3) (c : Nat) (d e f : Int) (g h : Prop) := Qfw (Qg7 a b c = Qg7 a b c) (Qg6 d d) (Qg6 e f) g h
def Qg9 (a : Qh5) (b : AHeap) (c : Qh3) (d e : Int) (f : Qh4) (g h : Prop) (i : OX (Sh.T Sh.int)) (j : Prop) := Qfw (AHeap.Le (OX.g a) b) (AHeap.wf b) (Qfz c d e f) g (h ∧ OXok Sh.int (OX.g a) i ∧ j)
def Qga (a : List Value) := Value.tuple (Array.mk a)
def Qgb (a b : Int) (c : Qh4) (d : OX Int) := Qga [Value.agg (Array.mk [Qg3 a, Qg3 b, Value.string c, Value.slice (OX.a d) (List.length (OX.xs d)) (OX.c d)]), Value.bool true]
def Qgc (a b : AHeap) (c : Prop) := AHeap.Le a b ∧ AHeap.wf b ∧ c
def Qgd (a b : AHeap) (c : Prop) := Qgc a b c → Qgc a b c
def Qge (a : Qh5) := List.length (OX.xs a)
def Qgf (a : Qh6) (b : Qh5) (c : Prop) := Qfx (Prod.fst a ≤ Qge b) (AHeap.Le (OX.g b) (Prod.snd a)) (AHeap.wf (Prod.snd a)) c
def Qgg (a : Qh5) (b : Nat) (c : Qh4) := getElem? (OX.xs a) b = some c
def Qgh (a : Qh6) := (↑(Prod.fst a) : Int)
def Qgi (a : Int) := IntKind.wrap IntKind.i64 a
def Qgj (a : Qh5) := Value.slice (OX.a a) (Qge a) (OX.c a)
def Qgk := (1 : Nat)
def Qgl (a b : Nat) := some (Addr.mk a b (some Qgk))
theorem l11Proof_spec (h : AHeap) (hw : h.wf) (a : Option Addr) (c : Nat) (l : List voteSh.T) (v q : Int) (hx : Sl h voteSh l (.slice a l.length c)) (H : VotsOk l) :
    ∃ r h', ACall Tryz.prog 105 [.slice a l.length c, .int .i64 v, .int .i64 q] h r h' ∧ PrfRes h l q ((provedM l 2 v q).map fun op => (v, op)) (fun p b => r = .tuple #[p, .bool b]) h' := by
  obtain ⟨_, _, A0, o, rfl, rfl, B, hm, h4⟩ := l11Ops_spec h hw a c l 2 v q hx H
  refine acall_q fun Q HQ => ?_
  refine acall_vc (fun _ => false) (fun _ => []) (fun _ => spL h a c l v q o) mixed Tryz.func105 rfl rfl rfl (Nat.le_of_ble_eq_true rfl) ?_ ?_
  · (refine vc_mp (by kernel_rfl : (Qfw True True (Qfw True (∀ (i : Nat × AHeap), Qgf i o (∀ (j : Nat) (t : ByteArray), j < Prod.fst i → Qgg o j t → Not (Qfz l v q t)) → bs (decide (Qgh i < (↑(Qge o) : Int))) (∃ (l_1 r : Nat), Qfx (OX.a o = Qgl l_1 r) (0 ≤ Qgh i) (Qgh i < (↑(Qge o) : Int)) (∃ (x : ByteArray), AHeap.ld (Prod.snd i) l_1 (r + Int.toNat (Qgh i)) Qg1 Qgk = some [Value.string x] ∧ (∃ (a_2 : Option Addr) (n c_1 : Nat) (h' : AHeap), ACall Tryz.prog 144 [Qg7 a l c, Qg3 2, Qg3 v, Qg3 q, Value.string x] (Prod.snd i) (Value.slice a_2 n c_1) h' ∧ bs (decide ((↑n : Int) ≥ 3)) (∃ (l_2 r : Nat), Qfx (OX.a o = Qgl l_2 r) (0 ≤ Qgh i) (Qgh i < (↑(Qge o) : Int)) (∃ (x : ByteArray), AHeap.ld h' l_2 (r + Int.toNat (Qgh i)) Qg1 Qgk = some [Value.string x] ∧ (∃ (op : ByteArray) (b : OX Int), Qg9 o h' l v q op (Qga [Value.agg (Array.mk [Qg3 v, Qg3 q, Value.string x, Value.slice a_2 n c_1]), Value.bool true] = Qgb v q op b) (h' = OX.g b) b (OX.xs b = votersM l 2 v q op)))) (∃ (j : Nat × AHeap), Qg8 a l c v q q (Qg5 = Qg5) (Qfw (Qgj o = Qgj o) (Qg6 (Qgi (Qgh i + 1)) (Qgh j)) (Qg4 = Qg4) (Prod.snd j = h') (Qfx (Qgf j o (∀ (j_1 : Nat) (t : ByteArray), j_1 < Prod.fst j → Qgg o j_1 t → Not (Qfz l v q t))) (Qge o - Prod.fst j < Qge o - Prod.fst i) (∀ (k : AHeap), Qgd (OX.g o) k (∀ (t : ByteArray), Qg0 o t l v q)) (∀ (v_1 : Value) (h : AHeap), (∃ (op : ByteArray) (b : OX Int), Qg9 o h l v q op (v_1 = Qgb v q op b) (h = OX.g b) b (OX.xs b = votersM l 2 v q op)) → (∃ (op : ByteArray) (b : OX Int), Qg9 o h l v q op (v_1 = Qgb v q op b) (h = OX.g b) b (OX.xs b = votersM l 2 v q op))))))))) (∃ (j : AHeap), Qfw (Qg5 = Qg5) (Qg4 = Qg4) (j = Prod.snd i) (AHeap.Le (OX.g o) j) (AHeap.wf j ∧ (∀ (t : ByteArray), Qg0 o t l v q)))) (Qfy True) (Qfx True True (True ∧ True) True) True) True True) = _) ?_; delta Qfw Qfx Qfy Qfz Qg0 Qg1 Qg2 Qg3 Qg4 Qg5 Qg6 Qg7 Qg8 Qg9 Qga Qgb Qgc Qgd Qge Qgf Qgg Qgh Qgi Qgj Qgk Qgl)
    simp only [true_and, and_true]
    refine fun ⟨i, g⟩ ⟨hi, le, wf, hall⟩ => ?_
    dsimp only at *
    refine bs_d (fun hlt => ?_) (fun hge => ⟨g, rfl, le, wf, fun t ht => ?_⟩)
    · obtain ⟨t, hat⟩ : ∃ y : ByteArray, o.xs[i]? = some y := ⟨_, List.getElem?_eq_getElem (by omega)⟩
      obtain ⟨lo, r, row, ha, _, hrd, hld⟩ := (B.sn.so.sl.mono le).elem hat
      obtain rfl : row = [.string t] := hrd
      obtain ⟨_, g2, A2, b, rfl, eg, Bb, hb⟩ := l11Voters_spec g wf a c l 2 v q t (hx.mono (B.le.trans le)) H
      rw [eg] at A2
      have le2 : g.Le b.g := Bb.le
      refine ⟨lo, r, ha, Int.natCast_nonneg _, hlt, _, hld, _, _, _, _, A2, bs_d (fun e => ?_) (fun e => ?_)⟩
      · exact ⟨lo, r, ha, Int.natCast_nonneg _, hlt, _, le2.ld hld, t, b, le.trans le2, Bb.wf, by rw [← hb]; omega, rfl, rfl, SoB.rebase Bb le B.wf, hb⟩
      · refine ⟨(i + 1, b.g), by rw [wrap_i64 (by omega)]; rfl, rfl, ⟨by dsimp only; omega, le.trans le2, Bb.wf, fun j u hj hu => ?_⟩, by dsimp only; omega, fun _ h => h, fun _ _ h => h⟩
        by_cases c1 : j = i
        · subst c1; rw [hat] at hu; cases hu; rw [← hb]; omega
        · exact hall j u (by dsimp only at hj; omega) hu
    · obtain ⟨j, hj⟩ := List.mem_iff_getElem?.1 ht
      have := (List.getElem?_eq_some_iff.1 hj).1
      exact hall j t (by omega) hj
  (refine vc_mp (by kernel_rfl : (∃ (a_1 : Option Addr) (n c_1 : Nat) (h' : AHeap), ACall Tryz.prog 143 [Qg7 a l c, Qg3 2, Qg3 v, Qg3 q] h (Value.slice a_1 n c_1) h' ∧ (∃ (i : Nat × AHeap), Qg8 a l c v q q (Qg5 = Qg5) (Qfw (Value.slice a_1 n c_1 = Qgj o) (Qg6 0 (Qgh i)) (Qg4 = Qg4) (Prod.snd i = h') (Qgf i o (∀ (j : Nat) (t : ByteArray), j < Prod.fst i → Qgg o j t → Not (Qfz l v q t)) ∧ (∀ (j : AHeap), Qgc (OX.g o) j (∀ (t : ByteArray), Qg0 o t l v q) → Q (Qga [Value.agg (Array.mk Qg4), Value.bool false]) j) ∧ (∀ (v_1 : Value) (h : AHeap), (∃ (op : ByteArray) (b : OX Int), Qg9 o h l v q op (v_1 = Qgb v q op b) (h = OX.g b) b (OX.xs b = votersM l 2 v q op)) → Q v_1 h))))) = _) ?_; delta Qfw Qfx Qfz Qg0 Qg1 Qg2 Qg3 Qg4 Qg5 Qg6 Qg7 Qg8 Qg9 Qga Qgb Qgc Qge Qgf Qgg Qgh Qgj)
  refine ⟨_, _, _, _, A0, (0, o.g), rfl, rfl, rfl, rfl, rfl, rfl, rfl, rfl, ⟨Nat.zero_le _, .refl _, B.wf, fun j t hj => absurd hj (Nat.not_lt_zero _)⟩, fun g ⟨le, wf, hno⟩ => HQ _ _ ⟨B.le.trans le, wf, .inl ⟨?_, rfl⟩⟩, fun _ _ ⟨op, b, le, wf, hq, e, eg, Bb, hb⟩ => HQ _ _ ⟨B.le.trans le, wf, .inr ⟨v, op, b.a, b.c, b.ids, ?_, ?_, ?_, ?_⟩⟩⟩
  · rw [provedM_none fun t ht => hno t ((hm t).2 ht)]; rfl
  · rw [provedM_some H hq]; rfl
  · rw [e, hb]
  · have s := OXok.sn Bb
    rw [hb] at s
    rw [eg]; exact s
  · rw [eg]; exact Bb.fr.widen B.le.n (Nat.le_refl _)
def sdL (h : AHeap) (a : Option Addr) (c : Nat) (l : List voteSh.T) (q : Int) : Nat → LSpec
  | 0 => {
    ι := Nat × AHeap
    κ := AHeap
    I := fun i => i.1 ≤ 8 ∧ h.Le i.2 ∧ i.2.wf ∧ decM l q i.1 = none
    μ := fun i => 8 - i.1
    head := fun i => ⟨[(0, .slice a l.length c), (1, .int .i64 q), (6, .int .i64 i.1)], [], i.2⟩
    post := fun g => ⟨[], [], g⟩
    R := fun _ g => h.Le g ∧ g.wf ∧ decM l q 8 = none
    ret := fun _ r g => h.Le g ∧ g.wf ∧ ∃ op, decM l q 8 = some op ∧ r = .tuple #[.string op, .bool true] }
  | _ => {
    ι := Nat × OX ByteArray × Nat × AHeap
    κ := Nat × AHeap
    I := fun i => i.1 < 8 ∧ h.Le i.2.1.g ∧ i.2.1.g.Le i.2.2.2 ∧ i.2.2.2.wf ∧ decM l q i.1 = none ∧ i.2.2.1 ≤ i.2.1.xs.length ∧ i.2.1.xs.length ≤ 400 ∧ Sl i.2.1.g Sh.str i.2.1.xs (.slice i.2.1.a i.2.1.xs.length i.2.1.c) ∧ (∀ t, t ∈ i.2.1.xs ↔ ∃ f, (3, (i.1 : Int), q, t, f) ∈ l) ∧ ∀ (j : Nat) (t : ByteArray), j < i.2.2.1 → i.2.1.xs[j]? = some t → ¬ 3 ≤ (votersM l 3 i.1 q t).length
    μ := fun i => i.2.1.xs.length - i.2.2.1
    head := fun i => ⟨[(0, .slice a l.length c), (1, .int .i64 q), (6, .int .i64 i.1), (7, .slice i.2.1.a i.2.1.xs.length i.2.1.c), (8, .int .i64 i.2.2.1)], [], i.2.2.2⟩
    post := fun i => ⟨[(0, .slice a l.length c), (1, .int .i64 q), (6, .int .i64 i.1)], [], i.2⟩
    R := fun i g => g.1 = i.1 ∧ h.Le g.2 ∧ g.2.wf ∧ decM l q (i.1 + 1) = none
    ret := fun _ r g => h.Le g ∧ g.wf ∧ ∃ op, decM l q 8 = some op ∧ r = .tuple #[.string op, .bool true] }
def Qgm (a : Prop) (b : AHeap) (c : Qh6) (d : Qh3) (e : Int) (f : Nat) := Qfx a (AHeap.Le b (Prod.snd c)) (AHeap.wf (Prod.snd c)) (decM d e f = none)
def Qgn (a : Qh7) := Prod.snd (Prod.snd a)
def Qgo (a : Qh7) := Prod.snd (Qgn a)
def Qgp (a : Qh7) := (↑(Prod.fst a) : Int)
def Qgq (a : Qh4) := Qga [Value.string a, Value.bool true]
def Qgr := (8 : Nat)
def Qgs (a : Qh3) (b : Int) (c : Qh4) (d : Value) := decM a b Qgr = some c ∧ d = Qgq c
def Qgt (a : Qh7) := Prod.fst (Qgn a)
def Qgu (a : Qh7) := Prod.fst (Prod.snd a)
def Qgv (a : Qh7) := Qge (Qgu a)
def Qgw (a : Prop) (b : AHeap) (c : Qh7) (d e f g h i : Prop) := Qfw a (AHeap.Le b (OX.g (Qgu c))) (AHeap.Le (OX.g (Qgu c)) (Prod.snd (Qgn c))) (AHeap.wf (Prod.snd (Qgn c))) (Qfw d e f g (h ∧ i))
def Qgx (a : Qh3) (b : Qh7) (c : Int) (d : Qh4) := Not (3 ≤ List.length (votersM a 3 (Qgp b) c d))
def Qgy (a : Qh7) (b : Qh4) (c : Prop) := Iff (Membership.mem (OX.xs (Qgu a)) b) c
def Qgz (a : Qh3) (b : Qh7) (c : Int) (d : Qh4) (e : Sh.T Sh.int) := Membership.mem a (Prod.mk 3 (Prod.mk (Qgp b) (Prod.mk c (Prod.mk d e))))
def Qh0 (a : Qh7) := Qgj (Qgu a)
def Qh1 (a : Qh7) := Qgh (Qgn a)
def Qh2 (a : Qh6) (b : AHeap) (c : Qh3) (d : Int) := Qgm (Prod.fst a ≤ Qgr) b a c d (Prod.fst a)
theorem l11Decided_spec (h : AHeap) (hw : h.wf) (a : Option Addr) (c : Nat) (l : List voteSh.T) (q : Int) (hx : Sl h voteSh l (.slice a l.length c)) (H : VotsOk l) :
    ∃ r h', ACall Tryz.prog 106 [.slice a l.length c, .int .i64 q] h r h' ∧ h.Le h' ∧ h'.wf ∧ ((decM l q 8 = none ∧ r = .tuple #[.string ⟨#[]⟩, .bool false]) ∨ ∃ op, decM l q 8 = some op ∧ r = .tuple #[.string op, .bool true]) := by
  refine acall_q fun Q HQ => ?_
  refine acall_vc (fun _ => false) (fun _ => []) (sdL h a c l q) mixed Tryz.func106 rfl rfl rfl (Nat.le_of_ble_eq_true rfl) ?_ ?_
  · (refine vc_mp (by kernel_rfl : (Qfx True (Qfw True (∀ (i : Nat × AHeap), Qh2 i h l q → bs (decide (Qgh i ≤ 7)) (∃ (a_2 : Option Addr) (n c_1 : Nat) (h' : AHeap), ACall Tryz.prog 143 [Qg7 a l c, Qg3 3, Qg3 (Qgh i), Qg3 q] (Prod.snd i) (Value.slice a_2 n c_1) h' ∧ (∃ (i_1 : Nat × OX ByteArray × Nat × AHeap), Qg8 a l c q (Qgh i) (Qgp i_1) (Value.slice a_2 n c_1 = Qh0 i_1) (Qfw (Qg6 0 (Qh1 i_1)) (Qgo i_1 = h') (Qgw (Prod.fst i_1 < Qgr) h i_1 (decM l q (Prod.fst i_1) = none) (Qgt i_1 ≤ Qgv i_1) (Qgv i_1 ≤ 400) (Sl (OX.g (Qgu i_1)) Sh.str (OX.xs (Prod.fst (Prod.snd i_1))) (Qh0 i_1)) (∀ (t : ByteArray), Qgy i_1 t (∃ (f : Sh.T Sh.int), Qgz l i_1 q t f)) (∀ (j : Nat) (t : ByteArray), j < Qgt i_1 → Qgg (Qgu i_1) j t → Qgx l i_1 q t)) (∀ (j : Nat × AHeap), Qgm (Prod.fst j = Prod.fst i_1) h j l q (Prod.fst i_1 + Qgk) → (∃ (j_1 : Nat × AHeap), Qg8 a l c q (Qgi (Qgh j + 1)) (Qgh j_1) (Prod.snd j_1 = Prod.snd j) (Qfx (Qh2 j_1 h l q) (Qgr - Prod.fst j_1 < Qgr - Prod.fst i) (∀ (k : AHeap), Qgd h k (decM l q Qgr = none)) (∀ (v : Value) (h_1 : AHeap), Qgd h h_1 (∃ (op : ByteArray), Qgs l q op v))))) (∀ (v : Value) (h_1 : AHeap), Qgd h h_1 (∃ (op : ByteArray), Qgs l q op v))))) (∃ (j : AHeap), Qfx (j = Prod.snd i) (AHeap.Le h j) (AHeap.wf j) (decM l q Qgr = none))) (Qfy True) (Qfw True True (∀ (i : Nat × OX ByteArray × Nat × AHeap), Qgw (Prod.fst i < Qgr) h i (decM l q (Prod.fst i) = none) (Qgt i ≤ Qgv i) (Qgv i ≤ 400) (Sl (OX.g (Qgu i)) Sh.str (OX.xs (Prod.fst (Prod.snd i))) (Qh0 i)) (∀ (t : ByteArray), Qgy i t (∃ (f : Sh.T Sh.int), Qgz l i q t f)) (∀ (j : Nat) (t : ByteArray), j < Qgt i → Qgg (Qgu i) j t → Qgx l i q t) → bs (decide (Qh1 i < (↑(Qgv i) : Int))) (∃ (l_1 r : Nat), Qfx (OX.a (Qgu i) = Qgl l_1 r) (0 ≤ Qh1 i) (Qh1 i < (↑(Qgv i) : Int)) (∃ (x : ByteArray), AHeap.ld (Qgo i) l_1 (r + Int.toNat (Qh1 i)) Qg1 Qgk = some [Value.string x] ∧ (∃ (a_2 : Option Addr) (n c_1 : Nat) (h' : AHeap), ACall Tryz.prog 144 [Qg7 a l c, Qg3 3, Qg3 (Qgp i), Qg3 q, Value.string x] (Qgo i) (Value.slice a_2 n c_1) h' ∧ bs (decide ((↑n : Int) ≥ 3)) (∃ (l_2 r : Nat), Qfx (OX.a (Qgu i) = Qgl l_2 r) (0 ≤ Qh1 i) (Qh1 i < (↑(Qgv i) : Int)) (∃ (x : ByteArray), Qfx (AHeap.ld h' l_2 (r + Int.toNat (Qh1 i)) Qg1 Qgk = some [Value.string x]) (AHeap.Le h h') (AHeap.wf h') (∃ (op : ByteArray), Qgs l q op (Qgq x)))) (∃ (j : Nat × OX ByteArray × Nat × AHeap), Qg8 a l c q (Qgp i) (Qgp j) (Qh0 i = Qh0 j) (Qfw (Qg6 (Qgi (Qh1 i + 1)) (Qh1 j)) (Qgo j = h') (Qgw (Prod.fst j < Qgr) h j (decM l q (Prod.fst j) = none) (Qgt j ≤ Qgv j) (Qgv j ≤ 400) (Sl (OX.g (Qgu j)) Sh.str (OX.xs (Prod.fst (Prod.snd j))) (Qh0 j)) (∀ (t : ByteArray), Qgy j t (∃ (f : Sh.T Sh.int), Qgz l j q t f)) (∀ (j_1 : Nat) (t : ByteArray), j_1 < Qgt j → Qgg (Qgu j) j_1 t → Qgx l j q t)) (Qgv j - Qgt j < Qgv i - Qgt i) ((∀ (k : Nat × AHeap), Qgm (Prod.fst k = Prod.fst j) h k l q (Prod.fst j + Qgk) → Qgm (Prod.fst k = Prod.fst i) h k l q (Prod.fst i + Qgk)) ∧ (∀ (v : Value) (h_1 : AHeap), Qgd h h_1 (∃ (op : ByteArray), Qgs l q op v)))))))) (∃ (j : Nat × AHeap), Qg8 a l c q (Qgp i) (Qgh j) (Prod.snd j = Qgo i) (Qgm (Prod.fst j = Prod.fst i) h j l q (Prod.fst i + Qgk)))) (Qfy True) (Qfy (True ∧ True) ∧ True)) True) True True) = _) ?_; delta Qfw Qfx Qfy Qg1 Qg3 Qg6 Qg7 Qg8 Qga Qgc Qgd Qge Qgg Qgh Qgi Qgj Qgk Qgl Qgm Qgn Qgo Qgp Qgq Qgr Qgs Qgt Qgu Qgv Qgw Qgx Qgy Qgz Qh0 Qh1 Qh2)
    simp only [true_and, and_true]
    refine ⟨fun ⟨v, g⟩ ⟨hv, le, wf, hd⟩ => ?_, fun ⟨v, o, i, g⟩ ⟨hv, le0, le, wf, hd, hi, h4, hs, hm, hall⟩ => ?_⟩
    · dsimp only at *
      refine bs_d (fun hle => ?_) (fun hgt => ⟨g, rfl, le, wf, by rw [show v = 8 by omega] at hd; exact hd⟩)
      obtain ⟨_, g2, A2, o, rfl, eg, B, hm, h4⟩ := l11Ops_spec g wf a c l 3 v q (hx.mono le) H
      rw [eg] at A2
      refine ⟨_, _, _, _, A2, (v, o, 0, o.g), rfl, rfl, rfl, rfl, ⟨by dsimp only; omega, le.trans B.le, .refl _, B.wf, hd, Nat.zero_le _, h4, B.sn.so.sl, hm, fun j t hj => absurd hj (Nat.not_lt_zero _)⟩, fun ⟨v', g'⟩ ⟨e, le', w', hd'⟩ => ?_, fun _ _ h => h⟩
      dsimp only at e le' w' hd'
      subst e
      exact ⟨(v' + 1, g'), by rw [wrap_i64 (by omega)]; rfl, rfl, ⟨by dsimp only; omega, le', w', hd'⟩, by dsimp only; omega, fun _ h => h, fun _ _ h => h⟩
    · dsimp only at *
      refine bs_d (fun hlt => ?_) (fun hge => ⟨(v, g), rfl, rfl, rfl, le0.trans le, wf, decM_miss hd (provedM_none fun t ht => ?_)⟩)
      · obtain ⟨t, hat⟩ : ∃ y : ByteArray, o.xs[i]? = some y := ⟨_, List.getElem?_eq_getElem (by omega)⟩
        obtain ⟨lo, r, row, ha, _, hrd, hld⟩ := (hs.mono le).elem hat
        obtain rfl : row = [.string t] := hrd
        obtain ⟨_, g2, A2, b, rfl, eg, Bb, hb⟩ := l11Voters_spec g wf a c l 3 v q t (hx.mono (le0.trans le)) H
        rw [eg] at A2
        have le2 : g.Le b.g := Bb.le
        refine ⟨lo, r, ha, Int.natCast_nonneg _, hlt, _, hld, _, _, _, _, A2, bs_d (fun e => ?_) (fun e => ?_)⟩
        · exact ⟨lo, r, ha, Int.natCast_nonneg _, hlt, _, le2.ld hld, (le0.trans le).trans le2, Bb.wf, t, decM_stay (decM_hit hd (provedM_some H (by rw [← hb]; omega))) 8 (by omega), rfl⟩
        · refine ⟨(v, o, i + 1, b.g), rfl, rfl, by rw [wrap_i64 (by omega)]; rfl, rfl, ⟨hv, le0, le.trans le2, Bb.wf, hd, by dsimp only; omega, h4, hs, hm, fun j u hj hu => ?_⟩, by dsimp only; omega, fun _ h => h, fun _ _ h => h⟩
          dsimp only at hj hu ⊢
          by_cases c1 : j = i
          · subst c1; rw [hat] at hu; cases hu; rw [← hb]; omega
          · exact hall j u (by omega) hu
      · obtain ⟨j, hj⟩ := List.mem_iff_getElem?.1 ((hm t).2 ht)
        have := (List.getElem?_eq_some_iff.1 hj).1
        exact hall j t (by omega) hj
  (refine vc_mp (by kernel_rfl : (∃ (i : Nat × AHeap), Qg8 a l c q 0 (Qgh i) (Prod.snd i = h) (Qh2 i h l q ∧ (∀ (j : AHeap), Qgc h j (decM l q Qgr = none) → Q (Qga [Qg2, Value.bool false]) j) ∧ (∀ (v : Value) (h_1 : AHeap), Qgc h h_1 (∃ (op : ByteArray), Qgs l q op v) → Q v h_1))) = _) ?_; delta Qfw Qfx Qg2 Qg3 Qg6 Qg7 Qg8 Qga Qgc Qgh Qgm Qgq Qgr Qgs Qh2)
  exact ⟨(0, h), rfl, rfl, rfl, rfl, ⟨by dsimp only; omega, .refl _, hw, rfl⟩, fun g ⟨le, wf, hd⟩ => HQ _ _ ⟨le, wf, .inl ⟨hd, rfl⟩⟩, fun _ _ ⟨le, wf, op, hd, e⟩ => HQ _ _ ⟨le, wf, .inr ⟨op, hd, e⟩⟩⟩
end Go.Proofs.YtpgfjadjhliohaaGreat
