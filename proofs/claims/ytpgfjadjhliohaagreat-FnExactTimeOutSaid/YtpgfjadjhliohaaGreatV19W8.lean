/- W8. -/
import Derived.Test.YtpgfjadjhliohaaGreatV19W7
namespace Go.Dat
open Go.Abs
def PrfRes (h : AHeap) (l : List voteSh.T) (q : Int) (r : Option (Int × ByteArray)) (P : Value → Bool → Prop) (h' : AHeap) : Prop :=
  h.Le h' ∧ h'.wf ∧ ((r = none ∧ P (.agg #[.int .i64 (Int.ofNat 0), .int .i64 (Int.ofNat 0), .string ⟨#[]⟩, .slice none 0 0]) false) ∨
    ∃ (v : Int) (op : ByteArray) (a : Option Addr) (c : Nat) (js : List Nat), r = some (v, op) ∧ P (.agg #[.int .i64 v, .int .i64 q, .string op, .slice a (votersM l 2 v q op).length c]) true ∧ Sn h' Sh.int (votersM l 2 v q op) (.slice a (votersM l 2 v q op).length c) js ∧ Fresh h.n h'.n js)
theorem rn_prf {h : AHeap} {a b : Int} {op : ByteArray} {by_ : List Sh.int.T} {v : Value} {js : List Nat} (s : Sn h Sh.int by_ v js) : Sh.rn h proofSh (a, b, op, by_) [.int .i64 a, .int .i64 b, .string op, v] js :=
  ⟨[.int .i64 a], [.int .i64 b, .string op, v], [], js, rfl, rfl, ⟨rfl, rfl⟩, [.int .i64 b], [.string op, v], [], js, rfl, rfl, ⟨rfl, rfl⟩, [.string op], [v], [], js, rfl, rfl, ⟨rfl, rfl⟩, rn_sl.2 ⟨v, rfl, s⟩⟩
noncomputable def chgM (l : List voteSh.T) (below : Nat) : Nat → List proofSh.T
  | 0 => []
  | n + 1 => chgM l below n ++ (match bestM l ((n + 1 : Nat) : Int) below with
    | some (v, op) => [(v, ((n + 1 : Nat) : Int), op, votersM l 2 v ((n + 1 : Nat) : Int) op)]
    | none => [])
theorem chgM_len (l : List voteSh.T) (below : Nat) : ∀ n, (chgM l below n).length ≤ n
  | 0 => Nat.le_refl _
  | n + 1 => by
    rw [chgM, List.length_append]
    have := chgM_len l below n
    split <;> simp <;> omega
end Go.Dat
namespace Go.Proofs.YtpgfjadjhliohaaGreat
open Go.Abs Go.Dat
set_option maxRecDepth 100000
set_option maxHeartbeats 8000000
def spL (h : AHeap) (a : Option Addr) (c : Nat) (l : List voteSh.T) (v q : Int) (o : OX ByteArray) : LSpec where
  ι := Nat × AHeap
  κ := AHeap
  I := fun i => i.1 ≤ o.xs.length ∧ o.g.Le i.2 ∧ i.2.wf ∧ ∀ (j : Nat) (t : ByteArray), j < i.1 → o.xs[j]? = some t → ¬ 3 ≤ (votersM l 2 v q t).length
  μ := fun i => o.xs.length - i.1
  head := fun i => ⟨[(0, .slice a l.length c), (1, .int .i64 v), (2, .int .i64 q), (6, .complex .f32 0 0), (8, .slice o.a o.xs.length o.c), (9, .int .i64 i.1)], [[.int .i64 (Int.ofNat 0), .int .i64 (Int.ofNat 0), .string ⟨#[]⟩, .slice none 0 0]], i.2⟩
  post := fun g => ⟨[(6, .complex .f32 0 0)], [[.int .i64 (Int.ofNat 0), .int .i64 (Int.ofNat 0), .string ⟨#[]⟩, .slice none 0 0]], g⟩
  R := fun _ g => o.g.Le g ∧ g.wf ∧ ∀ t ∈ o.xs, ¬ 3 ≤ (votersM l 2 v q t).length
  ret := fun _ r g => ∃ (op : ByteArray) (b : OX Int), o.g.Le g ∧ g.wf ∧ 3 ≤ (votersM l 2 v q op).length ∧ r = .tuple #[.agg #[.int .i64 v, .int .i64 q, .string op, .slice b.a b.xs.length b.c], .bool true] ∧ g = b.g ∧ OXok Sh.int o.g b ∧ b.xs = votersM l 2 v q op
abbrev Qhl := List (Sh.T voteSh)
abbrev Qhm := ByteArray
abbrev Qhn := OX ByteArray
abbrev Qho := Nat × AHeap
abbrev Qhp := Nat × OX ByteArray × Nat × AHeap
abbrev Qhq := Nat × OX (Sh.T proofSh)
def Qfw (a b c d e : Prop) := a ∧ b ∧ c ∧ d ∧ e
def Qfx (a b c d : Prop) := a ∧ b ∧ c ∧ d
def Qfy (a b : Prop) := Qfw True a (True ∧ True ∧ True) (Qfx True True b True) True
def Qfz (a : Qhl) (b c : Int) (d : Qhm) := 3 ≤ List.length (votersM a 2 b c d)
def Qg0 (a : Qhn) (b : Qhm) (c : Qhl) (d e : Int) := Membership.mem (OX.xs a) b → Not (Qfz c d e b)
def Qg1 := Value.slice none 0 0
def Qg2 := Value.string (ByteArray.mk (Array.mk List.nil))
def Qg3 (a : Int) := Value.int IntKind.i64 a
def Qg4 := Qg3 (Int.ofNat 0)
def Qg5 := [Qg4, Qg4, Qg2, Qg1]
def Qg6 := Qg5 = Qg5
def Qg7 (a : Nat) := Value.complex FloatKind.f32 a 0
def Qg8 := Qg7 0 = Qg7 0
def Qg9 (a : Qhn) (b : AHeap) (c : Qhl) (d e : Int) (f : Qhm) (g h : Prop) (i : OX (Sh.T Sh.int)) (j : Prop) := Qfw (AHeap.Le (OX.g a) b) (AHeap.wf b) (Qfz c d e f) g (h ∧ OXok Sh.int (OX.g a) i ∧ j)
def Qga (a : Value) (b : Bool) := Value.tuple (Array.mk [a, Value.bool b])
def Qgb (a : List Value) (b : Bool) := Qga (Value.agg (Array.mk a)) b
def Qgc (a b : Int) (c : Qhm) (d : Option Addr) (e f : Nat) := [Qg3 a, Qg3 b, Value.string c, Value.slice d e f]
def Qgd (a b : Int) (c : Qhm) (d : OX Int) := Qgb (Qgc a b c (OX.a d) (List.length (OX.xs d)) (OX.c d)) true
def Qge (a b : AHeap) (c : Prop) := AHeap.Le a b ∧ AHeap.wf b ∧ c
def Qgf (a b : AHeap) (c : Prop) := Qge a b c → Qge a b c
def Qgg (a : Qhn) := List.length (OX.xs a)
def Qgh (a : Qho) (b : Nat) (c : AHeap) (d : Prop) := Qfx (Prod.fst a ≤ b) (AHeap.Le c (Prod.snd a)) (AHeap.wf (Prod.snd a)) d
def Qgi (a : Qhn) (b : Nat) (c : Qhm) := getElem? (OX.xs a) b = some c
def Qgj (a b : Int) := Qg3 a = Qg3 b
def Qgk (a b : Int) := Qgj (IntKind.wrap IntKind.i64 a) b
def Qgl (a b : Int) := Qgk (a + 1) b
def Qgm (a : Qho) := (↑(Prod.fst a) : Int)
def Qgn (a : Qhn) := Value.slice (OX.a a) (Qgg a) (OX.c a)
def Qgo (a : Option Addr) (b : Qhl) (c : Nat) := Value.slice a (List.length b) c
def Qgp (a : Option Addr) (b : Qhl) (c : Nat) := Qgo a b c = Qgo a b c
def Qgq := (1 : Nat)
def Qgr (a b : Nat) := some (Addr.mk a b (some Qgq))
theorem l11Proof_spec (h : AHeap) (hw : h.wf) (a : Option Addr) (c : Nat) (l : List voteSh.T) (v q : Int) (hx : Sl h voteSh l (.slice a l.length c)) (H : VotsOk l) :
    ∃ r h', ACall Tryz.prog 105 [.slice a l.length c, .int .i64 v, .int .i64 q] h r h' ∧ PrfRes h l q ((provedM l 2 v q).map fun op => (v, op)) (fun p b => r = .tuple #[p, .bool b]) h' := by
  obtain ⟨_, _, A0, o, rfl, rfl, B, hm, h4⟩ := l11Ops_spec h hw a c l 2 v q hx H
  refine acall_q fun Q HQ => ?_
  refine acall_vc (fun _ => false) (fun _ => []) (fun _ => spL h a c l v q o) mixed Tryz.func105 rfl rfl rfl (Nat.le_of_ble_eq_true rfl) ?_ ?_
  · (refine vc_mp (by kernel_rfl : (Qfw True True (Qfy (∀ (i : Nat × AHeap), Qgh i (Qgg o) (OX.g o) (∀ (j : Nat) (t : ByteArray), j < Prod.fst i → Qgi o j t → Not (Qfz l v q t)) → bs (decide (Qgm i < (↑(Qgg o) : Int))) (∃ (l_1 r : Nat), Qfx (OX.a o = Qgr l_1 r) (0 ≤ Qgm i) (Qgm i < (↑(Qgg o) : Int)) (∃ (x : ByteArray), AHeap.ld (Prod.snd i) l_1 (r + Int.toNat (Qgm i)) 0 Qgq = some [Value.string x] ∧ (∃ (a_2 : Option Addr) (n c_1 : Nat) (h' : AHeap), ACall Tryz.prog 144 [Qgo a l c, Qg3 2, Qg3 v, Qg3 q, Value.string x] (Prod.snd i) (Value.slice a_2 n c_1) h' ∧ bs (decide ((↑n : Int) ≥ 3)) (∃ (l_2 r : Nat), Qfx (OX.a o = Qgr l_2 r) (0 ≤ Qgm i) (Qgm i < (↑(Qgg o) : Int)) (∃ (x : ByteArray), AHeap.ld h' l_2 (r + Int.toNat (Qgm i)) 0 Qgq = some [Value.string x] ∧ (∃ (op : ByteArray) (b : OX Int), Qg9 o h' l v q op (Qgb (Qgc v q x a_2 n c_1) true = Qgd v q op b) (h' = OX.g b) b (OX.xs b = votersM l 2 v q op)))) (∃ (j : Nat × AHeap), Qfw (Qgp a l c) (Qgj v v) (Qgj q q) Qg8 (Qfw (Qgn o = Qgn o) (Qgl (Qgm i) (Qgm j)) Qg6 (Prod.snd j = h') (Qfx (Qgh j (Qgg o) (OX.g o) (∀ (j_1 : Nat) (t : ByteArray), j_1 < Prod.fst j → Qgi o j_1 t → Not (Qfz l v q t))) (Qgg o - Prod.fst j < Qgg o - Prod.fst i) (∀ (k : AHeap), Qgf (OX.g o) k (∀ (t : ByteArray), Qg0 o t l v q)) (∀ (v_1 : Value) (h : AHeap), (∃ (op : ByteArray) (b : OX Int), Qg9 o h l v q op (v_1 = Qgd v q op b) (h = OX.g b) b (OX.xs b = votersM l 2 v q op)) → (∃ (op : ByteArray) (b : OX Int), Qg9 o h l v q op (v_1 = Qgd v q op b) (h = OX.g b) b (OX.xs b = votersM l 2 v q op))))))))) (∃ (j : AHeap), Qfw Qg8 Qg6 (j = Prod.snd i) (AHeap.Le (OX.g o) j) (AHeap.wf j ∧ (∀ (t : ByteArray), Qg0 o t l v q)))) (True ∧ True)) True True) = _) ?_; delta Qfw Qfx Qfy Qfz Qg0 Qg1 Qg2 Qg3 Qg4 Qg5 Qg6 Qg7 Qg8 Qg9 Qga Qgb Qgc Qgd Qge Qgf Qgg Qgh Qgi Qgj Qgk Qgl Qgm Qgn Qgo Qgp Qgq Qgr)
    simp only [true_and, and_true]
    refine fun ⟨i, g⟩ ⟨hi, le, wf, hall⟩ => ?_
    dsimp only at *
    refine bs_d (fun hlt => ?_) (fun hge => ⟨g, rfl, le, wf, fun t ht => ?_⟩)
    · obtain ⟨t, hat⟩ : ∃ y : ByteArray, o.xs[i]? = some y := ⟨_, List.getElem?_eq_getElem (by omega)⟩
      obtain ⟨lo, r, row, ha, _, hrd, hld⟩ := (B.sn.so.sl.mono le).elem hat
      obtain rfl : row = [.string t] := hrd
      obtain ⟨_, g2, A2, b, rfl, eg, Bb, hb⟩ := l11Voters_spec g wf a c l 2 v q t (hx.mono (B.le.trans le)) H
      rw [eg] at A2
      have le2 : g.Le b.g := Bb.le
      refine ⟨lo, r, ha, Int.natCast_nonneg _, hlt, _, hld, _, _, _, _, A2, bs_d (fun e => ?_) (fun e => ?_)⟩
      · exact ⟨lo, r, ha, Int.natCast_nonneg _, hlt, _, le2.ld hld, t, b, le.trans le2, Bb.wf, by rw [← hb]; omega, rfl, rfl, SoB.rebase Bb le B.wf, hb⟩
      · refine ⟨(i + 1, b.g), by rw [wrap_i64 (by omega)]; rfl, rfl, ⟨by dsimp only; omega, le.trans le2, Bb.wf, fun j u hj hu => ?_⟩, by dsimp only; omega, fun _ h => h, fun _ _ h => h⟩
        by_cases c1 : j = i
        · subst c1; rw [hat] at hu; cases hu; rw [← hb]; omega
        · exact hall j u (by dsimp only at hj; omega) hu
    · obtain ⟨j, hj⟩ := List.mem_iff_getElem?.1 ht
      have := (List.getElem?_eq_some_iff.1 hj).1
      exact hall j t (by omega) hj
  (refine vc_mp (by kernel_rfl : (∃ (a_1 : Option Addr) (n c_1 : Nat) (h' : AHeap), ACall Tryz.prog 143 [Qgo a l c, Qg3 2, Qg3 v, Qg3 q] h (Value.slice a_1 n c_1) h' ∧ (∃ (i : Nat × AHeap), Qfw (Qgp a l c) (Qgj v v) (Qgj q q) Qg8 (Qfw (Value.slice a_1 n c_1 = Qgn o) (Qgj 0 (Qgm i)) Qg6 (Prod.snd i = h') (Qgh i (Qgg o) (OX.g o) (∀ (j : Nat) (t : ByteArray), j < Prod.fst i → Qgi o j t → Not (Qfz l v q t)) ∧ (∀ (j : AHeap), Qge (OX.g o) j (∀ (t : ByteArray), Qg0 o t l v q) → Q (Qgb Qg5 false) j) ∧ (∀ (v_1 : Value) (h : AHeap), (∃ (op : ByteArray) (b : OX Int), Qg9 o h l v q op (v_1 = Qgd v q op b) (h = OX.g b) b (OX.xs b = votersM l 2 v q op)) → Q v_1 h))))) = _) ?_; delta Qfw Qfx Qfz Qg0 Qg1 Qg2 Qg3 Qg4 Qg5 Qg6 Qg7 Qg8 Qg9 Qga Qgb Qgc Qgd Qge Qgg Qgh Qgi Qgj Qgm Qgn Qgo Qgp)
  refine ⟨_, _, _, _, A0, (0, o.g), rfl, rfl, rfl, rfl, rfl, rfl, rfl, rfl, ⟨Nat.zero_le _, .refl _, B.wf, fun j t hj => absurd hj (Nat.not_lt_zero _)⟩, fun g ⟨le, wf, hno⟩ => HQ _ _ ⟨B.le.trans le, wf, .inl ⟨?_, rfl⟩⟩, fun _ _ ⟨op, b, le, wf, hq, e, eg, Bb, hb⟩ => HQ _ _ ⟨B.le.trans le, wf, .inr ⟨v, op, b.a, b.c, b.ids, ?_, ?_, ?_, ?_⟩⟩⟩
  · rw [provedM_none fun t ht => hno t ((hm t).2 ht)]; rfl
  · rw [provedM_some H hq]; rfl
  · rw [e, hb]
  · have s := OXok.sn Bb
    rw [hb] at s
    rw [eg]; exact s
  · rw [eg]; exact Bb.fr.widen B.le.n (Nat.le_refl _)
def sbL (h : AHeap) (a : Option Addr) (c : Nat) (l : List voteSh.T) (q : Int) (below : Nat) : LSpec where
  ι := Nat × AHeap
  κ := AHeap
  I := fun i => i.1 ≤ below ∧ h.Le i.2 ∧ i.2.wf ∧ bestM l q below = bestM l q i.1
  μ := fun i => i.1
  head := fun i => ⟨[(0, .slice a l.length c), (1, .int .i64 q), (6, .complex .f32 0 0), (8, .int .i64 ((i.1 : Int) - 1))], [[.int .i64 (Int.ofNat 0), .int .i64 (Int.ofNat 0), .string ⟨#[]⟩, .slice none 0 0]], i.2⟩
  post := fun g => ⟨[(6, .complex .f32 0 0)], [[.int .i64 (Int.ofNat 0), .int .i64 (Int.ofNat 0), .string ⟨#[]⟩, .slice none 0 0]], g⟩
  R := fun _ g => h.Le g ∧ g.wf ∧ bestM l q below = none
  ret := fun _ r g => PrfRes h l q (bestM l q below) (fun p b => r = .tuple #[p, .bool b]) g
def Qgs (a : Qho) := Qgm a - 1
theorem l11Best_spec (h : AHeap) (hw : h.wf) (a : Option Addr) (c : Nat) (l : List voteSh.T) (q : Int) (below : Nat) (hb : below ≤ 1000) (hx : Sl h voteSh l (.slice a l.length c)) (H : VotsOk l) :
    ∃ r h', ACall Tryz.prog 83 [.slice a l.length c, .int .i64 q, .int .i64 below] h r h' ∧ PrfRes h l q (bestM l q below) (fun p b => r = .tuple #[p, .bool b]) h' := by
  refine acall_q fun Q HQ => ?_
  refine acall_vc (fun _ => false) (fun _ => []) (fun _ => sbL h a c l q below) mixed Tryz.func83 rfl rfl rfl (Nat.le_of_ble_eq_true rfl) ?_ ?_
  · (refine vc_mp (by kernel_rfl : (Qfx True (Qfy (∀ (i : Nat × AHeap), Qgh i below h (bestM l q below = bestM l q (Prod.fst i)) → bs (decide (Qgs i ≥ 0)) (∃ (x x_1 : Int) (x_2 : ByteArray) (a_2 : Option Addr) (n c_1 : Nat) (x_3 : Bool) (h' : AHeap), ACall Tryz.prog 105 [Qgo a l c, Qg3 (Qgs i), Qg3 q] (Prod.snd i) (Qgb (Qgc x x_1 x_2 a_2 n c_1) x_3) h' ∧ bs x_3 (PrfRes h l q (bestM l q below) (fun (p : Value) => fun (b : Bool) => Qgb (Qgc x x_1 x_2 a_2 n c_1) true = Qga p b) h') (∃ (j : Nat × AHeap), Qfw (Qgp a l c) (Qgj q q) Qg8 (Qgk (Qgs i - 1) (Qgs j)) (Qfw Qg6 (Prod.snd j = h') (Qgh j below h (bestM l q below = bestM l q (Prod.fst j))) (Prod.fst j < Prod.fst i) ((∀ (k : AHeap), Qgf h k (bestM l q below = none)) ∧ (∀ (v : Value) (h_1 : AHeap), PrfRes h l q (bestM l q below) (fun (p : Value) => fun (b : Bool) => v = Qga p b) h_1 → PrfRes h l q (bestM l q below) (fun (p : Value) => fun (b : Bool) => v = Qga p b) h_1))))) (∃ (j : AHeap), Qfw Qg8 Qg6 (j = Prod.snd i) (AHeap.Le h j) (AHeap.wf j ∧ bestM l q below = none))) (True ∧ True)) True True) = _) ?_; delta Qfw Qfx Qfy Qg1 Qg2 Qg3 Qg4 Qg5 Qg6 Qg7 Qg8 Qga Qgb Qgc Qge Qgf Qgh Qgj Qgk Qgm Qgo Qgp Qgs)
    simp only [true_and, and_true]
    refine fun ⟨n, g⟩ ⟨hn, le, wf, hbest⟩ => ?_
    dsimp only at *
    refine bs_d (fun hge => ?_) (fun hlt => ⟨g, rfl, le, wf, by rw [hbest, show n = 0 by omega]; rfl⟩)
    rw [show ((n : Int) - 1) = ((n - 1 : Nat) : Int) by omega]
    obtain ⟨_, g2, A2, le2, w2, hr⟩ := l11Proof_spec g wf a c l ((n - 1 : Nat) : Int) q (hx.mono le) H
    have hb2 : bestM l q n = match provedM l 2 ((n - 1 : Nat) : Int) q with | some op => some (((n - 1 : Nat) : Int), op) | none => bestM l q (n - 1) := by
      obtain ⟨m, rfl⟩ : ∃ m, n = m + 1 := ⟨n - 1, by omega⟩
      rfl
    rcases hr with ⟨e, rfl⟩ | ⟨v, op, a', c', js, e, rfl, s, f⟩
    · have hp := Option.map_eq_none_iff.1 e
      refine ⟨_, _, _, _, _, _, _, _, A2, bs_b (fun e => by cases e) (fun _ => ⟨(n - 1, g2), by rw [wrap_i64 (by omega)], rfl, ⟨by dsimp only; omega, le.trans le2, w2, by rw [hbest, hb2, hp]⟩, by dsimp only; omega, fun _ h => h, fun _ _ h => h⟩)⟩
    · obtain ⟨op', hp, he⟩ := Option.map_eq_some_iff.1 e
      cases he
      exact ⟨_, _, _, _, _, _, _, _, A2, bs_b (fun _ => ⟨le.trans le2, w2, .inr ⟨_, op, a', c', js, by rw [hbest, hb2, hp], rfl, s, f.widen le.n (Nat.le_refl _)⟩⟩) (fun e => by cases e)⟩
  (refine vc_mp (by kernel_rfl : (∃ (i : Nat × AHeap), Qfw (Qgp a l c) (Qgj q q) Qg8 (Qgk ((↑below : Int) - 1) (Qgs i)) (Qfw Qg6 (Prod.snd i = h) (Qgh i below h (bestM l q below = bestM l q (Prod.fst i))) (∀ (j : AHeap), Qge h j (bestM l q below = none) → Q (Qgb Qg5 false) j) (∀ (v : Value) (h_1 : AHeap), PrfRes h l q (bestM l q below) (fun (p : Value) => fun (b : Bool) => v = Qga p b) h_1 → Q v h_1))) = _) ?_; delta Qfw Qfx Qg1 Qg2 Qg3 Qg4 Qg5 Qg6 Qg7 Qg8 Qga Qgb Qge Qgh Qgj Qgk Qgm Qgo Qgp Qgs)
  exact ⟨(below, h), rfl, rfl, rfl, by rw [wrap_i64 (by omega)], rfl, rfl, ⟨Nat.le_refl _, .refl _, hw, rfl⟩, fun g ⟨le, wf, hd⟩ => HQ _ _ ⟨le, wf, .inl ⟨hd, rfl⟩⟩, fun _ _ H => HQ _ _ H⟩
def sdL (h : AHeap) (a : Option Addr) (c : Nat) (l : List voteSh.T) (q : Int) : Nat → LSpec
  | 0 => {
    ι := Nat × AHeap
    κ := AHeap
    I := fun i => i.1 ≤ 8 ∧ h.Le i.2 ∧ i.2.wf ∧ decM l q i.1 = none
    μ := fun i => 8 - i.1
    head := fun i => ⟨[(0, .slice a l.length c), (1, .int .i64 q), (6, .int .i64 i.1)], [], i.2⟩
    post := fun g => ⟨[], [], g⟩
    R := fun _ g => h.Le g ∧ g.wf ∧ decM l q 8 = none
    ret := fun _ r g => h.Le g ∧ g.wf ∧ ∃ op, decM l q 8 = some op ∧ r = .tuple #[.string op, .bool true] }
  | _ => {
    ι := Nat × OX ByteArray × Nat × AHeap
    κ := Nat × AHeap
    I := fun i => i.1 < 8 ∧ h.Le i.2.1.g ∧ i.2.1.g.Le i.2.2.2 ∧ i.2.2.2.wf ∧ decM l q i.1 = none ∧ i.2.2.1 ≤ i.2.1.xs.length ∧ i.2.1.xs.length ≤ 400 ∧ Sl i.2.1.g Sh.str i.2.1.xs (.slice i.2.1.a i.2.1.xs.length i.2.1.c) ∧ (∀ t, t ∈ i.2.1.xs ↔ ∃ f, (3, (i.1 : Int), q, t, f) ∈ l) ∧ ∀ (j : Nat) (t : ByteArray), j < i.2.2.1 → i.2.1.xs[j]? = some t → ¬ 3 ≤ (votersM l 3 i.1 q t).length
    μ := fun i => i.2.1.xs.length - i.2.2.1
    head := fun i => ⟨[(0, .slice a l.length c), (1, .int .i64 q), (6, .int .i64 i.1), (7, .slice i.2.1.a i.2.1.xs.length i.2.1.c), (8, .int .i64 i.2.2.1)], [], i.2.2.2⟩
    post := fun i => ⟨[(0, .slice a l.length c), (1, .int .i64 q), (6, .int .i64 i.1)], [], i.2⟩
    R := fun i g => g.1 = i.1 ∧ h.Le g.2 ∧ g.2.wf ∧ decM l q (i.1 + 1) = none
    ret := fun _ r g => h.Le g ∧ g.wf ∧ ∃ op, decM l q 8 = some op ∧ r = .tuple #[.string op, .bool true] }
def Qgt (a : Prop) (b : AHeap) (c : Qho) (d : Qhl) (e : Int) (f : Nat) := Qfx a (AHeap.Le b (Prod.snd c)) (AHeap.wf (Prod.snd c)) (decM d e f = none)
def Qgu (a : Qhp) := Prod.snd (Prod.snd a)
def Qgv (a : Qhp) := Prod.snd (Qgu a)
def Qgw (a : Nat) := Qg3 (↑a : Int)
def Qgx (a : Qhp) := Qgw (Prod.fst a)
def Qgy := (8 : Nat)
def Qgz (a : Qhl) (b : Int) (c : Qhm) (d : Value) := decM a b Qgy = some c ∧ d = Qga (Value.string c) true
def Qh0 (a : Qhp) := Prod.fst (Qgu a)
def Qh1 (a : Qhp) := Prod.fst (Prod.snd a)
def Qh2 (a : Qhp) := Qgg (Qh1 a)
def Qh3 (a : Prop) (b : AHeap) (c : Qhp) (d : Qhl) (e : Int) (f g h i : Prop) := Qfw a (AHeap.Le b (OX.g (Qh1 c))) (AHeap.Le (OX.g (Qh1 c)) (Prod.snd (Qgu c))) (AHeap.wf (Prod.snd (Qgu c))) (Qfw (decM d e (Prod.fst c) = none) f g h i)
def Qh4 (a : Qhl) (b : Qhp) (c : Int) (d : Qhm) := Not (3 ≤ List.length (votersM a 3 (↑(Prod.fst b) : Int) c d))
def Qh5 (a : Qhp) (b : Qhm) (c : Prop) := Iff (Membership.mem (OX.xs (Qh1 a)) b) c
def Qh6 (a : Qhl) (b : Qhp) (c : Int) (d : Qhm) (e : Sh.T Sh.int) := Membership.mem a (Prod.mk 3 (Prod.mk (↑(Prod.fst b) : Int) (Prod.mk c (Prod.mk d e))))
def Qh7 (a : Qhp) := Qgn (Qh1 a)
def Qh8 (a : Qhp) := Qgm (Qgu a)
def Qh9 (a : Qho) (b : AHeap) (c : Qhl) (d : Int) := Qgh a Qgy b (decM c d (Prod.fst a) = none)
theorem l11Decided_spec (h : AHeap) (hw : h.wf) (a : Option Addr) (c : Nat) (l : List voteSh.T) (q : Int) (hx : Sl h voteSh l (.slice a l.length c)) (H : VotsOk l) :
    ∃ r h', ACall Tryz.prog 106 [.slice a l.length c, .int .i64 q] h r h' ∧ h.Le h' ∧ h'.wf ∧ ((decM l q 8 = none ∧ r = .tuple #[.string ⟨#[]⟩, .bool false]) ∨ ∃ op, decM l q 8 = some op ∧ r = .tuple #[.string op, .bool true]) := by
  refine acall_q fun Q HQ => ?_
  refine acall_vc (fun _ => false) (fun _ => []) (sdL h a c l q) mixed Tryz.func106 rfl rfl rfl (Nat.le_of_ble_eq_true rfl) ?_ ?_
  · (refine vc_mp (by kernel_rfl : (Qfx True (Qfw True (∀ (i : Nat × AHeap), Qh9 i h l q → bs (decide (Qgm i ≤ 7)) (∃ (a_2 : Option Addr) (n c_1 : Nat) (h' : AHeap), ACall Tryz.prog 143 [Qgo a l c, Qg3 3, Qg3 (Qgm i), Qg3 q] (Prod.snd i) (Value.slice a_2 n c_1) h' ∧ (∃ (i_1 : Nat × OX ByteArray × Nat × AHeap), Qfw (Qgp a l c) (Qgj q q) (Qg3 (Qgm i) = Qgx i_1) (Value.slice a_2 n c_1 = Qh7 i_1) (Qfw (Qgj 0 (Qh8 i_1)) (Qgv i_1 = h') (Qh3 (Prod.fst i_1 < Qgy) h i_1 l q (Qh0 i_1 ≤ Qh2 i_1) (Qh2 i_1 ≤ 400) (Sl (OX.g (Qh1 i_1)) Sh.str (OX.xs (Prod.fst (Prod.snd i_1))) (Qh7 i_1)) ((∀ (t : ByteArray), Qh5 i_1 t (∃ (f : Sh.T Sh.int), Qh6 l i_1 q t f)) ∧ (∀ (j : Nat) (t : ByteArray), j < Qh0 i_1 → Qgi (Qh1 i_1) j t → Qh4 l i_1 q t))) (∀ (j : Nat × AHeap), Qgt (Prod.fst j = Prod.fst i_1) h j l q (Prod.fst i_1 + Qgq) → (∃ (j_1 : Nat × AHeap), Qfw (Qgp a l c) (Qgj q q) (Qgl (Qgm j) (Qgm j_1)) (Prod.snd j_1 = Prod.snd j) (Qfx (Qh9 j_1 h l q) (Qgy - Prod.fst j_1 < Qgy - Prod.fst i) (∀ (k : AHeap), Qgf h k (decM l q Qgy = none)) (∀ (v : Value) (h_1 : AHeap), Qgf h h_1 (∃ (op : ByteArray), Qgz l q op v))))) (∀ (v : Value) (h_1 : AHeap), Qgf h h_1 (∃ (op : ByteArray), Qgz l q op v))))) (∃ (j : AHeap), Qfx (j = Prod.snd i) (AHeap.Le h j) (AHeap.wf j) (decM l q Qgy = none))) (True ∧ True ∧ True) (Qfw True True (∀ (i : Nat × OX ByteArray × Nat × AHeap), Qh3 (Prod.fst i < Qgy) h i l q (Qh0 i ≤ Qh2 i) (Qh2 i ≤ 400) (Sl (OX.g (Qh1 i)) Sh.str (OX.xs (Prod.fst (Prod.snd i))) (Qh7 i)) ((∀ (t : ByteArray), Qh5 i t (∃ (f : Sh.T Sh.int), Qh6 l i q t f)) ∧ (∀ (j : Nat) (t : ByteArray), j < Qh0 i → Qgi (Qh1 i) j t → Qh4 l i q t)) → bs (decide (Qh8 i < (↑(Qh2 i) : Int))) (∃ (l_1 r : Nat), Qfx (OX.a (Qh1 i) = Qgr l_1 r) (0 ≤ Qh8 i) (Qh8 i < (↑(Qh2 i) : Int)) (∃ (x : ByteArray), AHeap.ld (Qgv i) l_1 (r + Int.toNat (Qh8 i)) 0 Qgq = some [Value.string x] ∧ (∃ (a_2 : Option Addr) (n c_1 : Nat) (h' : AHeap), ACall Tryz.prog 144 [Qgo a l c, Qg3 3, Qgx i, Qg3 q, Value.string x] (Qgv i) (Value.slice a_2 n c_1) h' ∧ bs (decide ((↑n : Int) ≥ 3)) (∃ (l_2 r : Nat), Qfx (OX.a (Qh1 i) = Qgr l_2 r) (0 ≤ Qh8 i) (Qh8 i < (↑(Qh2 i) : Int)) (∃ (x : ByteArray), Qfx (AHeap.ld h' l_2 (r + Int.toNat (Qh8 i)) 0 Qgq = some [Value.string x]) (AHeap.Le h h') (AHeap.wf h') (∃ (op : ByteArray), Qgz l q op (Qga (Value.string x) true)))) (∃ (j : Nat × OX ByteArray × Nat × AHeap), Qfw (Qgp a l c) (Qgj q q) (Qgx i = Qgx j) (Qh7 i = Qh7 j) (Qfw (Qgl (Qh8 i) (Qh8 j)) (Qgv j = h') (Qh3 (Prod.fst j < Qgy) h j l q (Qh0 j ≤ Qh2 j) (Qh2 j ≤ 400) (Sl (OX.g (Qh1 j)) Sh.str (OX.xs (Prod.fst (Prod.snd j))) (Qh7 j)) ((∀ (t : ByteArray), Qh5 j t (∃ (f : Sh.T Sh.int), Qh6 l j q t f)) ∧ (∀ (j_1 : Nat) (t : ByteArray), j_1 < Qh0 j → Qgi (Qh1 j) j_1 t → Qh4 l j q t))) (Qh2 j - Qh0 j < Qh2 i - Qh0 i) ((∀ (k : Nat × AHeap), Qgt (Prod.fst k = Prod.fst j) h k l q (Prod.fst j + Qgq) → Qgt (Prod.fst k = Prod.fst i) h k l q (Prod.fst i + Qgq)) ∧ (∀ (v : Value) (h_1 : AHeap), Qgf h h_1 (∃ (op : ByteArray), Qgz l q op v)))))))) (∃ (j : Nat × AHeap), Qfw (Qgp a l c) (Qgj q q) (Qgx i = Qg3 (Qgm j)) (Prod.snd j = Qgv i) (Qgt (Prod.fst j = Prod.fst i) h j l q (Prod.fst i + Qgq)))) (True ∧ True ∧ True) ((True ∧ (True ∧ True) ∧ True) ∧ True)) True) True True) = _) ?_; delta Qfw Qfx Qg3 Qga Qge Qgf Qgg Qgh Qgi Qgj Qgk Qgl Qgm Qgn Qgo Qgp Qgq Qgr Qgt Qgu Qgv Qgw Qgx Qgy Qgz Qh0 Qh1 Qh2 Qh3 Qh4 Qh5 Qh6 Qh7 Qh8 Qh9)
    simp only [true_and, and_true]
    refine ⟨fun ⟨v, g⟩ ⟨hv, le, wf, hd⟩ => ?_, fun ⟨v, o, i, g⟩ ⟨hv, le0, le, wf, hd, hi, h4, hs, hm, hall⟩ => ?_⟩
    · dsimp only at *
      refine bs_d (fun hle => ?_) (fun hgt => ⟨g, rfl, le, wf, by rw [show v = 8 by omega] at hd; exact hd⟩)
      obtain ⟨_, g2, A2, o, rfl, eg, B, hm, h4⟩ := l11Ops_spec g wf a c l 3 v q (hx.mono le) H
      rw [eg] at A2
      refine ⟨_, _, _, _, A2, (v, o, 0, o.g), rfl, rfl, rfl, rfl, ⟨by dsimp only; omega, le.trans B.le, .refl _, B.wf, hd, Nat.zero_le _, h4, B.sn.so.sl, hm, fun j t hj => absurd hj (Nat.not_lt_zero _)⟩, fun ⟨v', g'⟩ ⟨e, le', w', hd'⟩ => ?_, fun _ _ h => h⟩
      dsimp only at e le' w' hd'
      subst e
      exact ⟨(v' + 1, g'), by rw [wrap_i64 (by omega)]; rfl, rfl, ⟨by dsimp only; omega, le', w', hd'⟩, by dsimp only; omega, fun _ h => h, fun _ _ h => h⟩
    · dsimp only at *
      refine bs_d (fun hlt => ?_) (fun hge => ⟨(v, g), rfl, rfl, rfl, le0.trans le, wf, decM_miss hd (provedM_none fun t ht => ?_)⟩)
      · obtain ⟨t, hat⟩ : ∃ y : ByteArray, o.xs[i]? = some y := ⟨_, List.getElem?_eq_getElem (by omega)⟩
        obtain ⟨lo, r, row, ha, _, hrd, hld⟩ := (hs.mono le).elem hat
        obtain rfl : row = [.string t] := hrd
        obtain ⟨_, g2, A2, b, rfl, eg, Bb, hb⟩ := l11Voters_spec g wf a c l 3 v q t (hx.mono (le0.trans le)) H
        rw [eg] at A2
        have le2 : g.Le b.g := Bb.le
        refine ⟨lo, r, ha, Int.natCast_nonneg _, hlt, _, hld, _, _, _, _, A2, bs_d (fun e => ?_) (fun e => ?_)⟩
        · exact ⟨lo, r, ha, Int.natCast_nonneg _, hlt, _, le2.ld hld, (le0.trans le).trans le2, Bb.wf, t, decM_stay (decM_hit hd (provedM_some H (by rw [← hb]; omega))) 8 (by omega), rfl⟩
        · refine ⟨(v, o, i + 1, b.g), rfl, rfl, by rw [wrap_i64 (by omega)]; rfl, rfl, ⟨hv, le0, le.trans le2, Bb.wf, hd, by dsimp only; omega, h4, hs, hm, fun j u hj hu => ?_⟩, by dsimp only; omega, fun _ h => h, fun _ _ h => h⟩
          dsimp only at hj hu ⊢
          by_cases c1 : j = i
          · subst c1; rw [hat] at hu; cases hu; rw [← hb]; omega
          · exact hall j u (by omega) hu
      · obtain ⟨j, hj⟩ := List.mem_iff_getElem?.1 ((hm t).2 ht)
        have := (List.getElem?_eq_some_iff.1 hj).1
        exact hall j t (by omega) hj
  (refine vc_mp (by kernel_rfl : (∃ (i : Nat × AHeap), Qfw (Qgp a l c) (Qgj q q) (Qgj 0 (Qgm i)) (Prod.snd i = h) (Qh9 i h l q ∧ (∀ (j : AHeap), Qge h j (decM l q Qgy = none) → Q (Qga Qg2 false) j) ∧ (∀ (v : Value) (h_1 : AHeap), Qge h h_1 (∃ (op : ByteArray), Qgz l q op v) → Q v h_1))) = _) ?_; delta Qfw Qfx Qg2 Qg3 Qga Qge Qgh Qgj Qgm Qgo Qgp Qgy Qgz Qh9)
  exact ⟨(0, h), rfl, rfl, rfl, rfl, ⟨by dsimp only; omega, .refl _, hw, rfl⟩, fun g ⟨le, wf, hd⟩ => HQ _ _ ⟨le, wf, .inl ⟨hd, rfl⟩⟩, fun _ _ ⟨le, wf, op, hd, e⟩ => HQ _ _ ⟨le, wf, .inr ⟨op, hd, e⟩⟩⟩
def scL (h : AHeap) (a : Option Addr) (c : Nat) (l : List voteSh.T) (from_ : Int) (view : Nat) : LSpec where
  ι := Nat × OX proofSh.T
  κ := OX proofSh.T
  I := fun i => i.1 ≤ 6 ∧ OXok proofSh h i.2 ∧ i.2.xs = chgM l view i.1
  μ := fun i => 6 - i.1
  head := fun i => ⟨[(0, .slice a l.length c), (2, .int .i64 view), (6, .complex .f32 0 0), (7, .complex .f32 1 0), (8, .int .i64 ((i.1 : Int) + 1))], [[.int .i64 (Int.ofNat 0), .int .i64 (Int.ofNat 0), .slice none 0 0], [.int .i64 from_, .int .i64 view, .slice i.2.a i.2.xs.length i.2.c]], i.2.g⟩
  post := fun o => ⟨[(6, .complex .f32 0 0), (7, .complex .f32 1 0)], [[.int .i64 (Int.ofNat 0), .int .i64 (Int.ofNat 0), .slice none 0 0], [.int .i64 from_, .int .i64 view, .slice o.a o.xs.length o.c]], o.g⟩
  R := fun _ o => OXok proofSh h o ∧ o.xs = chgM l view 6
  ret := fun _ _ _ => False
def Qha := (6 : Nat)
def Qhb (a : Qhq) := OX.g (Prod.snd a)
def Qhc (a : Int) (b : Nat) (c : Value) := [Qg3 a, Qgw b, c]
def Qhd (a : OX (Sh.T proofSh)) (b : List (Sh.T proofSh)) (c : Nat) := Value.slice (OX.a a) (List.length b) c
def Qhe (a : Qhq) := OX.xs (Prod.snd a)
def Qhf (a : Qhq) := Qhd (Prod.snd a) (Qhe a) (OX.c (Prod.snd a))
def Qhg := [Qg4, Qg4, Qg1]
def Qhh := Qg7 Qgq
def Qhi (a : AHeap) (b : OX (Sh.T proofSh)) (c : Qhl) (d : Nat) := OXok proofSh a b ∧ OX.xs b = chgM c d Qha
def Qhj (a : Prop) (b : AHeap) (c : Qhq) (d : Prop) := a ∧ OXok proofSh b (Prod.snd c) ∧ d
def Qhk (a : Qhq) := (↑(Prod.fst a) : Int) + 1
theorem l12Change_spec (h : AHeap) (hw : h.wf) (a : Option Addr) (c : Nat) (l : List voteSh.T) (from_ : Int) (view : Nat) (hb : view ≤ 1000) (hx : Sl h voteSh l (.slice a l.length c)) (H : VotsOk l) :
    ∃ r h', ACall Tryz.prog 35 [.slice a l.length c, .int .i64 from_, .int .i64 view] h r h' ∧ ∃ o : OX proofSh.T, r = .agg #[.int .i64 from_, .int .i64 view, .slice o.a o.xs.length o.c] ∧ h' = o.g ∧ OXok proofSh h o ∧ o.xs = chgM l view 6 := by
  refine acall_q fun Q HQ => ?_
  refine acall_vc (fun _ => false) (fun _ => []) (fun _ => scL h a c l from_ view) mixed Tryz.func35 rfl rfl rfl (Nat.le_of_ble_eq_true rfl) ?_ ?_
  · (refine vc_mp (by kernel_rfl : (Qfw True True (Qfy (∀ (i : Nat × OX (Sh.T proofSh)), Qhj (Prod.fst i ≤ Qha) h i (Qhe i = chgM l view (Prod.fst i)) → bs (decide (Qhk i ≤ 6)) (∃ (x x_1 : Int) (x_2 : ByteArray) (a_2 : Option Addr) (n c_1 : Nat) (x_3 : Bool) (h' : AHeap), ACall Tryz.prog 83 [Qgo a l c, Qg3 (Qhk i), Qgw view] (Qhb i) (Qgb (Qgc x x_1 x_2 a_2 n c_1) x_3) h' ∧ bs x_3 (∃ (xs : List (List Value)), Qfx (rowsV (AHeap.push h' (AObj.mk [Qgc x x_1 x_2 a_2 n c_1] 4 true)) (Value.slice (some (Addr.mk (AHeap.n h') 0 (some 4))) Qgq 2) = some xs) (List.all xs (fun (row : List Value) =>
  decide (List.length row = (4 : Nat)) &&
    List.all row fun (v : Value) =>
      match v with
      | Value.agg cells => false
      | Value.tuple cells => false
      | Value.complex k re im => false
      | Value.chan r => false
      | x => true) = true) ((List.length (Qhe i) + List.length xs) * 56 ≤ 140737488355328) (∃ (a_3 : Option Addr) (n_1 c_2 : Nat) (h'_1 : AHeap), AHeap.app (AHeap.push h' (AObj.mk [Qgc x x_1 x_2 a_2 n c_1] 4 true)) (Qhf i) xs 4 = some (Prod.mk (Value.slice a_3 n_1 c_2) h'_1) ∧ (∃ (j : Nat × OX (Sh.T proofSh)), Qfw (Qgp a l c) (Qgw view = Qgw view) Qg8 (Qhh = Qhh) (Qfw (Qgl (Qhk i) (Qhk j)) (Qhg = Qhg) (Qhc from_ view (Qhf j) = Qhc from_ view (Value.slice a_3 n_1 c_2)) (Qhb j = h'_1) (Qfx (Qhj (Prod.fst j ≤ Qha) h j (Qhe j = chgM l view (Prod.fst j))) (Qha - Prod.fst j < Qha - Prod.fst i) (∀ (k : OX (Sh.T proofSh)), Qhi h k l view → Qhi h k l view) (∀ (v : Value) (h : AHeap), False → False)))))) (∃ (j : Nat × OX (Sh.T proofSh)), Qfw (Qgp a l c) (Qgw view = Qgw view) Qg8 (Qhh = Qhh) (Qfw (Qgl (Qhk i) (Qhk j)) (Qhg = Qhg) (Qhc from_ view (Qhf j) = Qhc from_ view (Qhf i)) (Qhb j = h') (Qfx (Qhj (Prod.fst j ≤ Qha) h j (Qhe j = chgM l view (Prod.fst j))) (Qha - Prod.fst j < Qha - Prod.fst i) (∀ (k : OX (Sh.T proofSh)), Qhi h k l view → Qhi h k l view) (∀ (v : Value) (h : AHeap), False → False))))) (∃ (j : OX (Sh.T proofSh)), Qfw Qg8 (Qhh = Qhh) (Qhg = Qhg) (Qhc from_ view (Qhd j (OX.xs j) (OX.c j)) = Qhc from_ view (Qhf i)) (OX.g j = Qhb i ∧ OXok proofSh h j ∧ OX.xs j = chgM l view Qha))) True) True True) = _) ?_; delta Qfw Qfx Qfy Qg1 Qg3 Qg4 Qg7 Qg8 Qga Qgb Qgc Qgj Qgk Qgl Qgo Qgp Qgq Qgw Qha Qhb Qhc Qhd Qhe Qhf Qhg Qhh Qhi Qhj Qhk)
    simp only [true_and, and_true]
    refine fun ⟨n, o⟩ ⟨hn, B, hxs⟩ => ?_
    dsimp only at *
    refine bs_d (fun hle => ?_) (fun hgt => ⟨o, rfl, rfl, B, by rw [hxs, show n = 6 by omega]⟩)
    rw [show ((n : Int) + 1) = ((n + 1 : Nat) : Int) by omega]
    obtain ⟨_, g2, A2, le2, w2, hr⟩ := l11Best_spec o.g B.wf a c l ((n + 1 : Nat) : Int) view hb (hx.mono B.le) H
    have B' := B.grow le2 w2
    have hl : o.xs.length ≤ 6 := by rw [hxs]; exact Nat.le_trans (chgM_len l view n) hn
    rcases hr with ⟨e, rfl⟩ | ⟨v, op, a', c', js, e, rfl, s, f⟩
    · refine ⟨_, _, _, _, _, _, _, _, A2, bs_b (fun e => by cases e) (fun _ => ⟨(n + 1, ⟨o.a, o.c, o.xs, o.ids, g2⟩), by rw [wrap_i64 (by omega)], rfl, rfl, ⟨by dsimp only; omega, B', by dsimp only; rw [hxs, chgM, e]; exact (List.append_nil _).symm⟩, by dsimp only; omega, fun _ h => h, fun _ _ h => h⟩)⟩
    · obtain ⟨o', e6, B6, hx', _, _, _⟩ := B'.app (x := (v, ((n + 1 : Nat) : Int), op, votersM l 2 v ((n + 1 : Nat) : Int) op)) (rn_prf s) (f.widen B.le.n (Nat.le_refl _)) (fun z hz hm => by have h1 := (B.fr.bd z hz).2; have h2 := (f.bd z hm).1; omega)
      refine ⟨_, _, _, _, _, _, _, _, A2, bs_b (fun _ => ⟨[[.int .i64 v, .int .i64 ((n + 1 : Nat) : Int), .string op, .slice a' _ c']], rowsV_push, rfl, by simp only [List.length_cons, List.length_nil]; omega, _, _, _, o'.g, e6, (n + 1, o'), by rw [wrap_i64 (by omega)], rfl, rfl, ⟨by dsimp only; omega, B6, by dsimp only; rw [hx', hxs, chgM, e]⟩, by dsimp only; omega, fun _ h => h, fun _ _ h => h⟩) (fun e => by cases e)⟩
  (refine vc_mp (by kernel_rfl : (∃ (i : Nat × OX (Sh.T proofSh)), Qfw (Qgp a l c) (Qgw view = Qgw view) Qg8 (Qhh = Qhh) (Qfw (Qgj 1 (Qhk i)) (Qhg = Qhg) (Qhc from_ view (Qhf i) = Qhc from_ view Qg1) (Qhb i = h) (Qhj (Prod.fst i ≤ Qha) h i (Qhe i = chgM l view (Prod.fst i)) ∧ (∀ (j : OX (Sh.T proofSh)), Qhi h j l view → Q (Value.agg (Array.mk (Qhc from_ view (Qhd j (OX.xs j) (OX.c j))))) (OX.g j)) ∧ (∀ (v : Value) (h : AHeap), False → Q v h)))) = _) ?_; delta Qfw Qg1 Qg3 Qg4 Qg7 Qg8 Qgj Qgo Qgp Qgq Qgw Qha Qhb Qhc Qhd Qhe Qhf Qhg Qhh Qhi Qhj Qhk)
  exact ⟨(0, ⟨none, 0, [], [], h⟩), rfl, rfl, rfl, rfl, rfl, rfl, rfl, rfl, ⟨by dsimp only; omega, OXok.nil hw, rfl⟩, fun o ⟨B, hx⟩ => HQ _ _ ⟨o, rfl, rfl, B, hx⟩, fun _ _ h => h.elim⟩
end Go.Proofs.YtpgfjadjhliohaaGreat
