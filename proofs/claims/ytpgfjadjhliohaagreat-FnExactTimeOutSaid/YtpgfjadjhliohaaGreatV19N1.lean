/- N1. -/
import Derived.Test.YtpgfjadjhliohaaGreatV19R3
namespace Go.Dat
open Go.Abs
theorem len_le_sum {α : Type} {c : α → Nat} (hc : ∀ x, 1 ≤ c x) {xs : List α} : xs.length ≤ (xs.map c).sum := by
  induction xs with
  | nil => simp
  | cons x xs ih => have := hc x; simp only [List.length_cons, List.map_cons, List.sum_cons]; omega
theorem rn_vote {h : AHeap} {x : voteSh.T} {cs : List Value} {ids : List Nat} : voteSh.rn h x cs ids ↔ cs = [.int .i64 x.1, .int .i64 x.2.1, .int .i64 x.2.2.1, .string x.2.2.2.1, .int .i64 x.2.2.2.2] ∧ ids = [] ++ ([] ++ ([] ++ ([] ++ ([])))) := by
  constructor
  · rintro ⟨_, _, _, _, rfl, rfl, ⟨rfl, rfl⟩, _, _, _, _, rfl, rfl, ⟨rfl, rfl⟩, _, _, _, _, rfl, rfl, ⟨rfl, rfl⟩, _, _, _, _, rfl, rfl, ⟨rfl, rfl⟩, rfl, rfl⟩
    exact ⟨rfl, rfl⟩
  · rintro ⟨rfl, rfl⟩
    exact ⟨[_], _, [], _, rfl, rfl, ⟨rfl, rfl⟩, [_], _, [], _, rfl, rfl, ⟨rfl, rfl⟩, [_], _, [], _, rfl, rfl, ⟨rfl, rfl⟩, [_], _, [], _, rfl, rfl, ⟨rfl, rfl⟩, rfl, rfl⟩
end Go.Dat
namespace Go.Proofs.YtpgfjadjhliohaaGreat
open Go.Abs Go.Dat
set_option maxRecDepth 100000
set_option maxHeartbeats 4000000
abbrev Qpj := AHeap
abbrev Qpk := List Nat
abbrev Qpl := Option Addr
abbrev Qpm := List (Sh.T Sh.int)
abbrev Qpn := Nat × Int × AHeap × List (Sh.T Sh.int)
abbrev Qpo := List Value
abbrev Qpp := Nat × Int × AHeap
abbrev Qpq := List (Sh.T Sh.str)
abbrev Qpr := Nat × Int × AHeap × List (Sh.T Sh.str)
abbrev Qps := List (Sh.T proofSh)
abbrev Qpt := Nat × Int × AHeap × List (Sh.T proofSh)
abbrev Qpu := List (Sh.T changeSh)
abbrev Qpv := Nat × Int × AHeap × List (Sh.T changeSh)
abbrev Qpw := List (Sh.T saySh)
abbrev Qpx := Nat × Int × AHeap × List (Sh.T saySh)
abbrev Qpy := List (Sh.T voteSh)
abbrev Qpz := Nat × Int × AHeap × List (Sh.T voteSh)
def Qmk (a : Prop) := True ∧ a ∧ True
def Qml (a b : Prop) := True ∧ (True ∧ a ∧ Qmk True ∧ b ∧ True) ∧ True ∧ True
def Qmm := True ∧ True
def Qmn (a : Int) := Value.int IntKind.i64 a
def Qmo (a b : Int) (c d : Qpj) (e : Qpk) (f : Qpj) (g : Prop) := Qmn a = Qmn b ∧ c = d ∧ AHeap.wf c ∧ Out e f c ∧ g
def Qmp (a : Qpl) (b : Qpm) (c : Nat) := Value.slice a (List.length b) c
def Qmq (a : Qpj) (b : Qpm) (c : Int) (d : Qpl) (e : Nat) (f : Qpk) := So a Sh.int (Prod.fst (mrkL (Sh.mkd Sh.int) b c)) (Qmp d b e) f
def Qmr (a : Qpn) := Prod.fst (Prod.snd (Prod.snd a))
def Qms (a : Qpm) (b : Int) := Prod.snd (mrkL (Sh.mkd Sh.int) a b)
def Qmt (a : Qpn) := Prod.fst (Prod.snd a)
def Qmu (a : Prop) (b : Int) (c : Nat) (d : Prop) := a ∧ 0 ≤ b ∧ b < (↑c : Int) ∧ d
def Qmv (a : Qpj) (b c : Nat) (d : Int) (e : Nat) (f : Qpo) (g : Qpj) (h : Prop) := AHeap.wr a b (c + Int.toNat d) e f = some g ∧ h
def Qmw (a : Int) := IntKind.wrap IntKind.i64 (a + 1)
def Qmx (a : Value) (b c d e : Int) (f g : Qpj) (h : Prop) (i j k : Nat) (l m : Prop) := a = a ∧ Qmn b = Qmn c ∧ Qmn (Qmw d) = Qmn e ∧ f = g ∧ h ∧ i - j < i - k ∧ l ∧ m
def Qmy := False → False
def Qmz (a : Qpj) (b : Qpk) (c : Qpj) (d : Prop) := AHeap.wf a ∧ Out b c a ∧ d
def Qn0 (a : Qpj) (b : Qpk) (c : Qpj) (d : Prop) := Qmz a b c d → Qmz a b c d
def Qn1 (a : Qpj) (b : Qpm) (c : Int) (d : Qpl) (e : Nat) (f : Qpk) (g : Qpn) := MkI Sh.int a b c (Qmp d b e) f (Prod.fst g) (Qmt g) (Qmr g) (Prod.snd (Prod.snd (Prod.snd g)))
def Qn2 (a : Qpn) := (↑(Prod.fst a) : Int)
def Qn3 (a : Qpl) (b c d : Nat) := a = some (Addr.mk b c (some d))
def Qn4 (a : Value) (b c d : Int) (e f : Qpj) (g h i : Prop) := a = a ∧ Qmn b = Qmn c ∧ Qmn 0 = Qmn d ∧ e = f ∧ g ∧ h ∧ i
theorem mkInt64S (h : AHeap) (hw : h.wf) (xs : List (Sh.T Sh.int)) (v : Value) (ids : List Nat) (so : So h Sh.int xs v ids) (nd : ids.Nodup) (k : Int) (hk : 0 ≤ k) (hb : (mrkL (Sh.mkd Sh.int) xs k).2 ≤ 1000000000000000) :
    ∃ w h', ACall Tryz.prog 141 [v, .int .i64 k] h w h' ∧ w = .int .i64 (mrkL (Sh.mkd Sh.int) xs k).2 ∧ h'.wf ∧ Out ids h h' ∧ So h' Sh.int (mrkL (Sh.mkd Sh.int) xs k).1 v ids := by
  have hn : (xs.length : Int) ≤ 1000000000000000 := by have := mrkL_cn (Sh.mkd_cn Sh.int) xs k; have := len_le_sum (c := Sh.cn Sh.int) (xs := xs) (fun x => by simp only [Sh.cn]; omega); omega
  obtain ⟨a, c, rfl⟩ := so.sl.isSlice
  refine acall_q fun Q HQ => ?_
  refine acall_vc (fun _ => false) (fun _ => []) (fun _ => mkLp Sh.int h xs k (.slice a xs.length c) ids) mixed Tryz.func141 rfl rfl rfl (Nat.le_of_ble_eq_true rfl) ?_ ?_
  · (refine vc_mp (by kernel_rfl : (Qml (∀ (i : Nat × Int × AHeap × List (Sh.T Sh.int)), Qn1 h xs k a c ids i → bs (decide (Qn2 i < (↑(List.length xs) : Int))) (∃ (l r : Nat), Qmu (Qn3 a l r 1) (Qn2 i) (List.length xs) (∃ (h' : AHeap), Qmv (Qmr i) l r (Qn2 i) 0 [Qmn (Qmt i)] h' (∃ (j : Nat × Int × AHeap × List (Sh.T Sh.int)), Qmx (Qmp a xs c) (Qmw (Qmt i)) (Qmt j) (Qn2 i) (Qn2 j) (Qmr j) h' (Qn1 h xs k a c ids j) (List.length xs) (Prod.fst j) (Prod.fst i) (∀ (k_1 : AHeap), Qn0 k_1 ids h (Qmq k_1 xs k a c ids)) (∀ (v : Value) (h : AHeap), Qmy)))) (∃ (j : AHeap), Qmo (Qmt i) (Qms xs k) j (Qmr i) ids h (Qmq j xs k a c ids))) Qmm) = _) ?_; delta Qmk Qml Qmm Qmn Qmo Qmp Qmq Qmr Qms Qmt Qmu Qmv Qmw Qmx Qmy Qmz Qn0 Qn1 Qn2 Qn3)
    simp only [true_and, and_true]
    rintro ⟨i, ki, g, ys⟩ I
    dsimp only at *
    have hi := I.hi
    have k0 := I.k0
    refine bs_d (fun hlt => ?_) (fun hge => ?_)
    · obtain ⟨x, hx⟩ : ∃ y : Sh.T Sh.int, xs[i]? = some y := ⟨_, List.getElem?_eq_getElem (by omega)⟩
      have bd : ki + 1 ≤ 1000000000000000 := I.bound hx hb
      obtain ⟨l, r, n', c', rows, cs, js, e, hin, E0, ro, hlj, ndj, hsub, fin⟩ := I.so.elem nd I.wf (I.at hx)
      cases e
      obtain ⟨rfl, rfl⟩ := ro
      obtain ⟨g1, w1, E1, o1⟩ := E0.wr 0 [.int .i64 (ki)] [.int .i64 (ki)] (Nat.le_of_ble_eq_true rfl) rfl
      refine ⟨l, r, rfl, Int.natCast_nonneg _, hlt, g1, w1, ?_⟩
      try rw [wrap_i64 (n := ki + 1) (by omega)]
      have so2 := fin _ _ (Sh.mkd Sh.int x ki).1 E1 (⟨rfl, rfl⟩)
      exact ⟨(i + 1, (Sh.mkd Sh.int x ki).2, _, ys.set i (Sh.mkd Sh.int x ki).1), rfl, by rw [wrap_i64 (by omega)] <;> rfl, rfl, I.step hx E1.wf (E1.out.widen hsub) so2, by dsimp only; omega, fun _ h => h, fun _ _ h => h⟩
    · obtain ⟨e1, e2⟩ := I.finish (by omega)
      exact ⟨g, by rw [e1], rfl, I.wf, I.out, e2⟩
  · (refine vc_mp (by kernel_rfl : (∃ (i : Nat × Int × AHeap × List (Sh.T Sh.int)), Qn4 (Qmp a xs c) k (Qmt i) (Qn2 i) (Qmr i) h (Qn1 h xs k a c ids i) (∀ (j : AHeap), Qmz j ids h (Qmq j xs k a c ids) → Q (Qmn (Qms xs k)) j) (∀ (v : Value) (h : AHeap), False → Q v h)) = _) ?_; delta Qmn Qmp Qmq Qmr Qms Qmt Qmz Qn1 Qn2 Qn4)
    exact ⟨(0, k, h, xs), rfl, rfl, rfl, rfl, .start hw hk so, fun j hj => HQ _ _ ⟨rfl, hj⟩, fun _ _ h => h.elim⟩
def Qn5 (a : Qpp) := Prod.snd (Prod.snd a)
def Qn6 (a : Qpp) := Prod.fst (Prod.snd a)
def Qn7 (a : Qpp) (b : Int) (c d : Qpj) := Qmn (Qn6 a) = Qmn b ∧ c = Qn5 a ∧ AHeap.wf c ∧ AHeap.Le d c
def Qn8 (a : Qpj) (b c : Nat) (d : Int) (e : Nat) := AHeap.ld a b (c + Int.toNat d) e 1
def Qn9 (a : Qpp) := (↑(Prod.fst a) : Int)
def Qna (a : Qpp) (b c d : Nat) (e : Qpo) (f : Prop) := Qn8 (Qn5 a) b c (Qn9 a) d = some e ∧ f
def Qnb (a : Qpp) (b c : Nat) (d : Int) (e : Bool) (f : Prop) := Qna a b c 0 [Qmn d] (bs (not e) False f)
def Qnc (a : Value) (b : Int) (c d : Qpp) (e : Qpj) (f : Prop) (g : Nat) (h i : Prop) := a = a ∧ Qmn b = Qmn (Qn6 c) ∧ Qmn (Qmw (Qn9 d)) = Qmn (Qn9 c) ∧ Qn5 c = e ∧ f ∧ g - Prod.fst c < g - Prod.fst d ∧ h ∧ i
def Qnd (a b : Qpj) := AHeap.wf a ∧ AHeap.Le b a
def Qne (a b : Qpj) := Qnd a b → Qnd a b
def Qnf (a : Qpj) (b : Qpm) (c : Int) (d : Qpp) := HdI Sh.int a b c (Prod.fst d) (Qn6 d) (Qn5 d)
def Qng (a : Qpp) := Qmw (Qn6 a)
def Qnh (a : Value) (b : Int) (c : Qpp) (d : Qpj) (e f g : Prop) := Qn4 a b (Qn6 c) (Qn9 c) (Qn5 c) d e f g
theorem hdInt64S (h : AHeap) (hw : h.wf) (xs : List (Sh.T Sh.int)) (v : Value) (k : Int) (hx : Sl h Sh.int (mrkL (Sh.mkd Sh.int) xs k).1 v) (hk : 0 ≤ k) (hb : (mrkL (Sh.mkd Sh.int) xs k).2 ≤ 1000000000000000) :
    ∃ w h', ACall Tryz.prog 142 [v, .int .i64 k] h w h' ∧ w = .int .i64 (mrkL (Sh.mkd Sh.int) xs k).2 ∧ h'.wf ∧ h.Le h' := by
  have hn : (xs.length : Int) ≤ 1000000000000000 := by have := mrkL_cn (Sh.mkd_cn Sh.int) xs k; have := len_le_sum (c := Sh.cn Sh.int) (xs := xs) (fun x => by simp only [Sh.cn]; omega); omega
  obtain ⟨a, c, rfl⟩ := hx.isSlice
  rw [mrkL_len] at hx ⊢
  refine acall_q fun Q HQ => ?_
  refine acall_vc (fun _ => false) (fun _ => []) (fun _ => hdLp Sh.int h xs k (.slice a xs.length c)) mixed Tryz.func142 rfl rfl rfl (Nat.le_of_ble_eq_true rfl) ?_ ?_
  · (refine vc_mp (by kernel_rfl : (Qml (∀ (i : Nat × Int × AHeap), Qnf h xs k i → bs (decide (Qn9 i < (↑(List.length xs) : Int))) (∃ (l r : Nat), Qmu (Qn3 a l r 1) (Qn9 i) (List.length xs) (∃ (x : Int), Qnb i l r x (decide (x = Qn6 i)) (∃ (j : Nat × Int × AHeap), Qnc (Qmp a xs c) (Qng i) j i (Qn5 i) (Qnf h xs k j) (List.length xs) (∀ (k : AHeap), Qne k h) (∀ (v : Value) (h : AHeap), Qmy)))) (∃ (j : AHeap), Qn7 i (Qms xs k) j h)) (Qmk Qmm ∧ True)) = _) ?_; delta Qmk Qml Qmm Qmn Qmp Qms Qmu Qmw Qmy Qn3 Qn5 Qn6 Qn7 Qn8 Qn9 Qna Qnb Qnc Qnd Qne Qnf Qng)
    simp only [true_and, and_true]
    rintro ⟨i, ki, g⟩ I
    dsimp only at *
    have hi := I.hi
    have k0 := I.k0
    refine bs_d (fun hlt => ?_) (fun hge => ?_)
    · obtain ⟨x, hat⟩ : ∃ y : Sh.T Sh.int, xs[i]? = some y := ⟨_, List.getElem?_eq_getElem (by omega)⟩
      have bd : ki + 1 ≤ 1000000000000000 := I.bound hat hb
      obtain ⟨l, r, row, ha, _, hrd, hld⟩ := (hx.mono I.le).elem (I.at hat)
      obtain rfl : row = [.int .i64 ki] := hrd
      refine ⟨l, r, ha, Int.natCast_nonneg _, hlt, _, hld, bs_dn (fun e => absurd rfl e) (fun _ => ?_)⟩
      try rw [wrap_i64 (n := ki + 1) (by omega)]
      exact ⟨(i + 1, (Sh.mkd Sh.int x ki).2, _), rfl, by rw [wrap_i64 (by omega)] <;> rfl, rfl, I.step hat I.wf (.refl _), by dsimp only; omega, fun _ h => h, fun _ _ h => h⟩
    · exact ⟨g, by rw [I.finish (by omega)], rfl, I.wf, I.le⟩
  · (refine vc_mp (by kernel_rfl : (∃ (i : Nat × Int × AHeap), Qnh (Qmp a xs c) k i h (Qnf h xs k i) (∀ (j : AHeap), Qnd j h → Q (Qmn (Qms xs k)) j) (∀ (v : Value) (h : AHeap), False → Q v h)) = _) ?_; delta Qmn Qmp Qms Qn4 Qn5 Qn6 Qn9 Qnd Qnf Qnh)
    exact ⟨(0, k, h), rfl, rfl, rfl, rfl, .start hw hk, fun j hj => HQ _ _ ⟨rfl, hj⟩, fun _ _ h => h.elim⟩
def Qni (a : Qpl) (b : Qpq) (c : Nat) := Value.slice a (List.length b) c
def Qnj (a : Qpj) (b : Qpq) (c : Int) (d : Qpl) (e : Nat) (f : Qpk) := So a Sh.str (Prod.fst (mrkL (Sh.mkd Sh.str) b c)) (Qni d b e) f
def Qnk (a : Qpr) := Prod.fst (Prod.snd (Prod.snd a))
def Qnl (a : Qpq) (b : Int) := Prod.snd (mrkL (Sh.mkd Sh.str) a b)
def Qnm (a : Qpr) := Prod.fst (Prod.snd a)
def Qnn (a : Qpj) (b : Qpq) (c : Int) (d : Qpl) (e : Nat) (f : Qpk) (g : Qpr) := MkI Sh.str a b c (Qni d b e) f (Prod.fst g) (Qnm g) (Qnk g) (Prod.snd (Prod.snd (Prod.snd g)))
def Qno (a : Qpr) := (↑(Prod.fst a) : Int)
def Qnp (a : ByteArray) := [Value.string a]
def Qnq (a : Qpo) (b : Qpj) (c : ByteArray) (d : Qpj) := ACall Tryz.prog 47 a b (Value.string c) d
theorem mkStringS (h : AHeap) (hw : h.wf) (xs : List (Sh.T Sh.str)) (v : Value) (ids : List Nat) (so : So h Sh.str xs v ids) (nd : ids.Nodup) (k : Int) (hk : 0 ≤ k) (hb : (mrkL (Sh.mkd Sh.str) xs k).2 ≤ 1000000000000000) :
    ∃ w h', ACall Tryz.prog 46 [v, .int .i64 k] h w h' ∧ w = .int .i64 (mrkL (Sh.mkd Sh.str) xs k).2 ∧ h'.wf ∧ Out ids h h' ∧ So h' Sh.str (mrkL (Sh.mkd Sh.str) xs k).1 v ids := by
  have hn : (xs.length : Int) ≤ 1000000000000000 := by have := mrkL_cn (Sh.mkd_cn Sh.str) xs k; have := len_le_sum (c := Sh.cn Sh.str) (xs := xs) (fun x => by simp only [Sh.cn]; omega); omega
  obtain ⟨a, c, rfl⟩ := so.sl.isSlice
  refine acall_q fun Q HQ => ?_
  refine acall_vc (fun _ => false) (fun _ => []) (fun _ => mkLp Sh.str h xs k (.slice a xs.length c) ids) mixed Tryz.func46 rfl rfl rfl (Nat.le_of_ble_eq_true rfl) ?_ ?_
  · (refine vc_mp (by kernel_rfl : (Qml (∀ (i : Nat × Int × AHeap × List (Sh.T Sh.str)), Qnn h xs k a c ids i → bs (decide (Qno i < (↑(List.length xs) : Int))) (∃ (x : ByteArray) (h' : AHeap), Qnq [Qmn (Qnm i)] (Qnk i) x h' ∧ (∃ (l r : Nat), Qmu (Qn3 a l r 1) (Qno i) (List.length xs) (∃ (h'_1 : AHeap), Qmv h' l r (Qno i) 0 (Qnp x) h'_1 (∃ (j : Nat × Int × AHeap × List (Sh.T Sh.str)), Qmx (Qni a xs c) (Qmw (Qnm i)) (Qnm j) (Qno i) (Qno j) (Qnk j) h'_1 (Qnn h xs k a c ids j) (List.length xs) (Prod.fst j) (Prod.fst i) (∀ (k_1 : AHeap), Qn0 k_1 ids h (Qnj k_1 xs k a c ids)) (∀ (v : Value) (h : AHeap), Qmy))))) (∃ (j : AHeap), Qmo (Qnm i) (Qnl xs k) j (Qnk i) ids h (Qnj j xs k a c ids))) Qmm) = _) ?_; delta Qmk Qml Qmm Qmn Qmo Qmu Qmv Qmw Qmx Qmy Qmz Qn0 Qn3 Qni Qnj Qnk Qnl Qnm Qnn Qno Qnp Qnq)
    simp only [true_and, and_true]
    rintro ⟨i, ki, g, ys⟩ I
    dsimp only at *
    have hi := I.hi
    have k0 := I.k0
    refine bs_d (fun hlt => ?_) (fun hge => ?_)
    · obtain ⟨x, hx⟩ : ∃ y : Sh.T Sh.str, xs[i]? = some y := ⟨_, List.getElem?_eq_getElem (by omega)⟩
      have bd : ki + 1 ≤ 1000000000000000 := I.bound hx hb
      obtain ⟨l, r, n', c', rows, cs, js, e, hin, E0, ro, hlj, ndj, hsub, fin⟩ := I.so.elem nd I.wf (I.at hx)
      cases e
      obtain ⟨rfl, rfl⟩ := ro
      obtain ⟨_, t1, A1, lt1, wt1, rfl⟩ := mt_spec (ki) _ E0.wf (by omega)
      have E0 := E0.le lt1 wt1
      obtain ⟨g1, w1, E1, o1⟩ := E0.wr 0 [.string (mtext (ki))] [.string (mtext (ki))] (Nat.le_of_ble_eq_true rfl) rfl
      refine ⟨_, _, A1, l, r, rfl, Int.natCast_nonneg _, hlt, g1, w1, ?_⟩
      try rw [wrap_i64 (n := ki + 1) (by omega)]
      have so2 := fin _ _ (Sh.mkd Sh.str x ki).1 E1 (⟨rfl, rfl⟩)
      exact ⟨(i + 1, (Sh.mkd Sh.str x ki).2, _, ys.set i (Sh.mkd Sh.str x ki).1), rfl, by rw [wrap_i64 (by omega)] <;> rfl, rfl, I.step hx E1.wf (E1.out.widen hsub) so2, by dsimp only; omega, fun _ h => h, fun _ _ h => h⟩
    · obtain ⟨e1, e2⟩ := I.finish (by omega)
      exact ⟨g, by rw [e1], rfl, I.wf, I.out, e2⟩
  · (refine vc_mp (by kernel_rfl : (∃ (i : Nat × Int × AHeap × List (Sh.T Sh.str)), Qn4 (Qni a xs c) k (Qnm i) (Qno i) (Qnk i) h (Qnn h xs k a c ids i) (∀ (j : AHeap), Qmz j ids h (Qnj j xs k a c ids) → Q (Qmn (Qnl xs k)) j) (∀ (v : Value) (h : AHeap), False → Q v h)) = _) ?_; delta Qmn Qmz Qn4 Qni Qnj Qnk Qnl Qnm Qnn Qno)
    exact ⟨(0, k, h, xs), rfl, rfl, rfl, rfl, .start hw hk so, fun j hj => HQ _ _ ⟨rfl, hj⟩, fun _ _ h => h.elim⟩
def Qnr (a : Qpo) (b : Qpp) (c : ByteArray) (d : Qpj) (e : Prop) (f : Bool) (g : Prop) := Qnq a (Qn5 b) c d ∧ e ∧ bs (not f) False g
def Qns (a : Qpj) (b : Qpq) (c : Int) (d : Qpp) := HdI Sh.str a b c (Prod.fst d) (Qn6 d) (Qn5 d)
def Qnt (a : Qpj) (b c : Nat) (d : Qpp) (e : Nat) (f : Qpo) (g : Prop) := Qn8 a b c (Qn9 d) e = some f ∧ g
theorem hdStringS (h : AHeap) (hw : h.wf) (xs : List (Sh.T Sh.str)) (v : Value) (k : Int) (hx : Sl h Sh.str (mrkL (Sh.mkd Sh.str) xs k).1 v) (hk : 0 ≤ k) (hb : (mrkL (Sh.mkd Sh.str) xs k).2 ≤ 1000000000000000) :
    ∃ w h', ACall Tryz.prog 116 [v, .int .i64 k] h w h' ∧ w = .int .i64 (mrkL (Sh.mkd Sh.str) xs k).2 ∧ h'.wf ∧ h.Le h' := by
  have hn : (xs.length : Int) ≤ 1000000000000000 := by have := mrkL_cn (Sh.mkd_cn Sh.str) xs k; have := len_le_sum (c := Sh.cn Sh.str) (xs := xs) (fun x => by simp only [Sh.cn]; omega); omega
  obtain ⟨a, c, rfl⟩ := hx.isSlice
  rw [mrkL_len] at hx ⊢
  refine acall_q fun Q HQ => ?_
  refine acall_vc (fun _ => false) (fun r => match r with | 4 => [(0, 0, []), (1, 0, []), (2, 0, []), (4, 0, []), (3, 1, []), (5, 3, [3]), (6, 0, [])] | _ => []) (fun _ => hdLp Sh.str h xs k (.slice a xs.length c)) mixed Tryz.func116 rfl rfl rfl (Nat.le_of_ble_eq_true rfl) ?_ ?_
  · (refine vc_mp (by kernel_rfl : (Qml (∀ (i : Nat × Int × AHeap), Qns h xs k i → bs (decide (Qn9 i < (↑(List.length xs) : Int))) (∃ (l r : Nat), Qmu (Qn3 a l r 1) (Qn9 i) (List.length xs) (∃ (x : ByteArray), Qna i l r 0 (Qnp x) (∃ (x_1 : ByteArray) (h' : AHeap), Qnr [Qmn (Qn6 i)] i x_1 h' (∃ (x_2 : ByteArray), Qnt h' l r i 0 (Qnp x_2) (Value.string x_2 = Value.string x)) (decide (x = x_1)) (∃ (j : Nat × Int × AHeap), Qnc (Qni a xs c) (Qng i) j i h' (Qns h xs k j) (List.length xs) (∀ (k : AHeap), Qne k h) (∀ (v : Value) (h : AHeap), Qmy))))) (∃ (j : AHeap), Qn7 i (Qnl xs k) j h)) (Qmk Qmm ∧ True)) = _) ?_; delta Qmk Qml Qmm Qmn Qmu Qmw Qmy Qn3 Qn5 Qn6 Qn7 Qn8 Qn9 Qna Qnc Qnd Qne Qng Qni Qnl Qnp Qnq Qnr Qns Qnt)
    simp only [true_and, and_true]
    rintro ⟨i, ki, g⟩ I
    dsimp only at *
    have hi := I.hi
    have k0 := I.k0
    refine bs_d (fun hlt => ?_) (fun hge => ?_)
    · obtain ⟨x, hat⟩ : ∃ y : Sh.T Sh.str, xs[i]? = some y := ⟨_, List.getElem?_eq_getElem (by omega)⟩
      have bd : ki + 1 ≤ 1000000000000000 := I.bound hat hb
      obtain ⟨l, r, row, ha, _, hrd, hld⟩ := (hx.mono I.le).elem (I.at hat)
      obtain rfl : row = [.string (mtext ki)] := hrd
      obtain ⟨_, t1, A1, lt1, wt1, rfl⟩ := mt_spec (ki) _ I.wf (by omega)
      refine ⟨l, r, ha, Int.natCast_nonneg _, hlt, _, hld, _, _, A1, ⟨_, lt1.ld (hld), rfl⟩, bs_dn (fun e => absurd rfl e) (fun _ => ?_)⟩
      have hld := lt1.ld hld
      try rw [wrap_i64 (n := ki + 1) (by omega)]
      exact ⟨(i + 1, (Sh.mkd Sh.str x ki).2, _), rfl, by rw [wrap_i64 (by omega)] <;> rfl, rfl, I.step hat wt1 lt1, by dsimp only; omega, fun _ h => h, fun _ _ h => h⟩
    · exact ⟨g, by rw [I.finish (by omega)], rfl, I.wf, I.le⟩
  · (refine vc_mp (by kernel_rfl : (∃ (i : Nat × Int × AHeap), Qnh (Qni a xs c) k i h (Qns h xs k i) (∀ (j : AHeap), Qnd j h → Q (Qmn (Qnl xs k)) j) (∀ (v : Value) (h : AHeap), False → Q v h)) = _) ?_; delta Qmn Qn4 Qn5 Qn6 Qn9 Qnd Qnh Qni Qnl Qns)
    exact ⟨(0, k, h), rfl, rfl, rfl, rfl, .start hw hk, fun j hj => HQ _ _ ⟨rfl, hj⟩, fun _ _ h => h.elim⟩
def Qnu (a : Prop) := True ∧ True ∧ True ∧ True ∧ a
def Qnv (a : Qpl) (b : Qps) (c : Nat) := Value.slice a (List.length b) c
def Qnw (a : Qpj) (b : Qps) (c : Int) (d : Qpl) (e : Nat) (f : Qpk) := So a proofSh (Prod.fst (mrkL (Sh.mkd proofSh) b c)) (Qnv d b e) f
def Qnx (a : Qpt) := Prod.fst (Prod.snd (Prod.snd a))
def Qny (a : Qps) (b : Int) := Prod.snd (mrkL (Sh.mkd proofSh) a b)
def Qnz (a : Qpt) := Prod.fst (Prod.snd a)
def Qo0 (a : Qpt) := (↑(Prod.fst a) : Int)
def Qo1 (a : Qpl) (b c : Nat) (d : Qpt) (e : Qps) (f : Prop) := Qmu (Qn3 a b c 4) (Qo0 d) (List.length e) f
def Qo2 (a : Int) := Qmw (Qmw a)
def Qo3 (a : FuncId) (b : Qpl) (c d : Nat) (e : Int) (f : Qpj) (g : Int) (h : Qpj) (i : Prop) := ACall Tryz.prog a [Value.slice b c d, Qmn (Qo2 e)] f (Qmn g) h ∧ i
def Qo4 (a : Qpj) (b : Qps) (c : Int) (d : Qpl) (e : Nat) (f : Qpk) (g : Qpt) := MkI proofSh a b c (Qnv d b e) f (Prod.fst g) (Qnz g) (Qnx g) (Prod.snd (Prod.snd (Prod.snd g)))
def Qo5 (a : Int) := [Qmn (Qo2 a)]
theorem mkProofS (h : AHeap) (hw : h.wf) (xs : List (Sh.T proofSh)) (v : Value) (ids : List Nat) (so : So h proofSh xs v ids) (nd : ids.Nodup) (k : Int) (hk : 0 ≤ k) (hb : (mrkL (Sh.mkd proofSh) xs k).2 ≤ 1000000000000000) :
    ∃ w h', ACall Tryz.prog 102 [v, .int .i64 k] h w h' ∧ w = .int .i64 (mrkL (Sh.mkd proofSh) xs k).2 ∧ h'.wf ∧ Out ids h h' ∧ So h' proofSh (mrkL (Sh.mkd proofSh) xs k).1 v ids := by
  have hn : (xs.length : Int) ≤ 1000000000000000 := by have := mrkL_cn (Sh.mkd_cn proofSh) xs k; have := len_le_sum (c := Sh.cn proofSh) (xs := xs) (fun x => by simp only [Sh.cn]; omega); omega
  obtain ⟨a, c, rfl⟩ := so.sl.isSlice
  refine acall_q fun Q HQ => ?_
  refine acall_vc (fun _ => false) (fun _ => []) (fun _ => mkLp proofSh h xs k (.slice a xs.length c) ids) mixed Tryz.func102 rfl rfl rfl (Nat.le_of_ble_eq_true rfl) ?_ ?_
  · (refine vc_mp (by kernel_rfl : (Qml (∀ (i : Nat × Int × AHeap × List (Sh.T proofSh)), Qo4 h xs k a c ids i → bs (decide (Qo0 i < (↑(List.length xs) : Int))) (∃ (l r : Nat), Qo1 a l r i xs (∃ (h' : AHeap), Qmv (Qnx i) l r (Qo0 i) 0 [Qmn (Qnz i)] h' (∃ (l r : Nat), Qo1 a l r i xs (∃ (h'_1 : AHeap), Qmv h' l r (Qo0 i) 1 [Qmn (Qmw (Qnz i))] h'_1 (∃ (x : ByteArray) (h' : AHeap), Qnq (Qo5 (Qnz i)) h'_1 x h' ∧ (∃ (l r : Nat), Qo1 a l r i xs (∃ (h'_2 : AHeap), Qmv h' l r (Qo0 i) 2 (Qnp x) h'_2 (∃ (l r : Nat), Qo1 a l r i xs (∃ (a_2 : Option Addr) (n c_1 : Nat), Qn8 h'_2 l r (Qo0 i) 3 = some [Value.slice a_2 n c_1] ∧ (∃ (x : Int) (h' : AHeap), Qo3 141 a_2 n c_1 (Qmw (Qnz i)) h'_2 x h' (∃ (j : Nat × Int × AHeap × List (Sh.T proofSh)), Qmx (Qnv a xs c) x (Qnz j) (Qo0 i) (Qo0 j) (Qnx j) h' (Qo4 h xs k a c ids j) (List.length xs) (Prod.fst j) (Prod.fst i) (∀ (k_1 : AHeap), Qn0 k_1 ids h (Qnw k_1 xs k a c ids)) (∀ (v : Value) (h : AHeap), Qmy)))))))))))) (∃ (j : AHeap), Qmo (Qnz i) (Qny xs k) j (Qnx i) ids h (Qnw j xs k a c ids))) (Qnu (Qmk True))) = _) ?_; delta Qmk Qml Qmn Qmo Qmu Qmv Qmw Qmx Qmy Qmz Qn0 Qn3 Qn8 Qnp Qnq Qnu Qnv Qnw Qnx Qny Qnz Qo0 Qo1 Qo2 Qo3 Qo4 Qo5)
    simp only [true_and, and_true]
    rintro ⟨i, ki, g, ys⟩ I
    dsimp only at *
    have hi := I.hi
    have k0 := I.k0
    refine bs_d (fun hlt => ?_) (fun hge => ?_)
    · obtain ⟨x, hx⟩ : ∃ y : Sh.T proofSh, xs[i]? = some y := ⟨_, List.getElem?_eq_getElem (by omega)⟩
      have bd : (mrkL (Sh.mkd Sh.int) x.2.2.2 (ki + 1 + 1 + 1)).2 ≤ 1000000000000000 := I.bound hx hb
      obtain ⟨l, r, n', c', rows, cs, js, e, hin, E0, ro, hlj, ndj, hsub, fin⟩ := I.so.elem nd I.wf (I.at hx)
      cases e
      have q1 := Sh.mrkL_le Sh.int x.2.2.2 (ki + 1 + 1 + 1)
      obtain ⟨v1, j1, rfl, rfl, s1⟩ := ro_proof.1 ro
      obtain ⟨a1, c1, rfl⟩ := s1.sl.isSlice
      try simp only [List.mem_append, not_or, List.append_nil, List.nil_append, List.not_mem_nil, not_false_eq_true, true_and, and_true] at hlj
      try simp only [List.nodup_append, List.append_nil, List.nil_append, List.nodup_nil, List.not_mem_nil, List.mem_append, false_imp_iff, implies_true, true_and, and_true] at ndj
      obtain ⟨g1, w1, E1, o1⟩ := E0.wr 0 [.int .i64 (ki)] [.int .i64 (ki), .int .i64 x.2.1, .string x.2.2.1, _] (Nat.le_of_ble_eq_true rfl) rfl
      have s1 := s1.out o1 (nin1 hlj)
      refine ⟨l, r, rfl, Int.natCast_nonneg _, hlt, g1, w1, ?_⟩
      obtain ⟨g2, w2, E2, o2⟩ := E1.wr 1 [.int .i64 (ki + 1)] [.int .i64 (ki), .int .i64 (ki + 1), .string x.2.2.1, _] (Nat.le_of_ble_eq_true rfl) rfl
      have s1 := s1.out o2 (nin1 hlj)
      try rw [wrap_i64 (n := ki + 1) (by omega)]
      refine ⟨l, r, rfl, Int.natCast_nonneg _, hlt, g2, w2, ?_⟩
      obtain ⟨_, t1, A1, lt1, wt1, rfl⟩ := mt_spec (ki + 1 + 1) _ E2.wf (by omega)
      have E2 := E2.le lt1 wt1
      have s1 := So.le lt1 s1
      obtain ⟨g3, w3, E3, o3⟩ := E2.wr 2 [.string (mtext (ki + 1 + 1))] [.int .i64 (ki), .int .i64 (ki + 1), .string (mtext (ki + 1 + 1)), _] (Nat.le_of_ble_eq_true rfl) rfl
      have s1 := s1.out o3 (nin1 hlj)
      try rw [wrap_i64 (n := ki + 1 + 1) (by omega)]
      refine ⟨_, _, A1, l, r, rfl, Int.natCast_nonneg _, hlt, g3, w3, ?_⟩
      try rw [wrap_i64 (n := ki + 1 + 1 + 1) (by omega)]
      obtain ⟨_, t2, A2, rfl, wt2, ot2, s1⟩ := mkInt64S _ E3.wf x.2.2.2 _ _ s1 ndj (ki + 1 + 1 + 1) (by omega) (by omega)
      refine ⟨l, r, rfl, Int.natCast_nonneg _, hlt, _, _, _, E3.ld 3 1 (Nat.le_of_ble_eq_true rfl), _, _, A2, ?_⟩
      have F2' := E3.call ot2 wt2 hlj (by intro z hz; simp [hz])
      have so2 := fin _ _ (Sh.mkd proofSh x ki).1 F2' (ro_proof.2 ⟨_, _, rfl, rfl, s1⟩)
      exact ⟨(i + 1, (Sh.mkd proofSh x ki).2, _, ys.set i (Sh.mkd proofSh x ki).1), rfl, by rw [wrap_i64 (by omega)] <;> rfl, rfl, I.step hx F2'.wf (F2'.out.widen hsub) so2, by dsimp only; omega, fun _ h => h, fun _ _ h => h⟩
    · obtain ⟨e1, e2⟩ := I.finish (by omega)
      exact ⟨g, by rw [e1], rfl, I.wf, I.out, e2⟩
  · (refine vc_mp (by kernel_rfl : (∃ (i : Nat × Int × AHeap × List (Sh.T proofSh)), Qn4 (Qnv a xs c) k (Qnz i) (Qo0 i) (Qnx i) h (Qo4 h xs k a c ids i) (∀ (j : AHeap), Qmz j ids h (Qnw j xs k a c ids) → Q (Qmn (Qny xs k)) j) (∀ (v : Value) (h : AHeap), False → Q v h)) = _) ?_; delta Qmn Qmz Qn4 Qnv Qnw Qnx Qny Qnz Qo0 Qo4)
    exact ⟨(0, k, h, xs), rfl, rfl, rfl, rfl, .start hw hk so, fun j hj => HQ _ _ ⟨rfl, hj⟩, fun _ _ h => h.elim⟩
def Qo6 (a : Prop) := Qmk Qmm ∧ True ∧ Qmk Qmm ∧ True ∧ a
def Qo7 (a : Qpl) (b c : Nat) (d : Qpp) (e : Qps) (f : Prop) := Qmu (Qn3 a b c 4) (Qn9 d) (List.length e) f
def Qo8 (a : Qpp) (b c d : Nat) (e : Int) (f : Bool) (g : Prop) := Qna a b c d [Qmn e] (bs (not f) False g)
def Qo9 (a : Qpj) (b : Qps) (c : Int) (d : Qpp) := HdI proofSh a b c (Prod.fst d) (Qn6 d) (Qn5 d)
theorem hdProofS (h : AHeap) (hw : h.wf) (xs : List (Sh.T proofSh)) (v : Value) (k : Int) (hx : Sl h proofSh (mrkL (Sh.mkd proofSh) xs k).1 v) (hk : 0 ≤ k) (hb : (mrkL (Sh.mkd proofSh) xs k).2 ≤ 1000000000000000) :
    ∃ w h', ACall Tryz.prog 103 [v, .int .i64 k] h w h' ∧ w = .int .i64 (mrkL (Sh.mkd proofSh) xs k).2 ∧ h'.wf ∧ h.Le h' := by
  have hn : (xs.length : Int) ≤ 1000000000000000 := by have := mrkL_cn (Sh.mkd_cn proofSh) xs k; have := len_le_sum (c := Sh.cn proofSh) (xs := xs) (fun x => by simp only [Sh.cn]; omega); omega
  obtain ⟨a, c, rfl⟩ := hx.isSlice
  rw [mrkL_len] at hx ⊢
  refine acall_q fun Q HQ => ?_
  refine acall_vc (fun _ => false) (fun r => match r with | 10 => [(0, 0, []), (1, 0, []), (2, 0, []), (3, 0, []), (5, 0, []), (4, 1, []), (6, 3, [4]), (7, 0, [])] | _ => []) (fun _ => hdLp proofSh h xs k (.slice a xs.length c)) mixed Tryz.func103 rfl rfl rfl (Nat.le_of_ble_eq_true rfl) ?_ ?_
  · (refine vc_mp (by kernel_rfl : (Qml (∀ (i : Nat × Int × AHeap), Qo9 h xs k i → bs (decide (Qn9 i < (↑(List.length xs) : Int))) (∃ (l r : Nat), Qo7 a l r i xs (∃ (x : Int), Qnb i l r x (decide (x = Qn6 i)) (∃ (l r : Nat), Qo7 a l r i xs (∃ (x : Int), Qo8 i l r 1 x (decide (x = Qng i)) (∃ (l r : Nat), Qo7 a l r i xs (∃ (x : ByteArray), Qna i l r 2 (Qnp x) (∃ (x_1 : ByteArray) (h' : AHeap), Qnr (Qo5 (Qn6 i)) i x_1 h' (∃ (x_2 : ByteArray), Qnt h' l r i 2 (Qnp x_2) (Value.string x_2 = Value.string x)) (decide (x = x_1)) (∃ (l r : Nat), Qo7 a l r i xs (∃ (a_2 : Option Addr) (n c_1 : Nat), Qnt h' l r i 3 [Value.slice a_2 n c_1] (∃ (x : Int) (h'_1 : AHeap), Qo3 142 a_2 n c_1 (Qng i) h' x h'_1 (bs (decide (x < 0)) False (∃ (j : Nat × Int × AHeap), Qnc (Qnv a xs c) x j i h'_1 (Qo9 h xs k j) (List.length xs) (∀ (k : AHeap), Qne k h) (∀ (v : Value) (h : AHeap), Qmy))))))))))))) (∃ (j : AHeap), Qn7 i (Qny xs k) j h)) (Qo6 (Qmk Qmm ∧ True ∧ True ∧ True ∧ Qmm ∧ True))) = _) ?_; delta Qmk Qml Qmm Qmn Qmu Qmw Qmy Qn3 Qn5 Qn6 Qn7 Qn8 Qn9 Qna Qnb Qnc Qnd Qne Qng Qnp Qnq Qnr Qnt Qnv Qny Qo2 Qo3 Qo5 Qo6 Qo7 Qo8 Qo9)
    simp only [true_and, and_true]
    rintro ⟨i, ki, g⟩ I
    dsimp only at *
    have hi := I.hi
    have k0 := I.k0
    refine bs_d (fun hlt => ?_) (fun hge => ?_)
    · obtain ⟨x, hat⟩ : ∃ y : Sh.T proofSh, xs[i]? = some y := ⟨_, List.getElem?_eq_getElem (by omega)⟩
      have bd : (mrkL (Sh.mkd Sh.int) x.2.2.2 (ki + 1 + 1 + 1)).2 ≤ 1000000000000000 := I.bound hat hb
      have q1 := Sh.mrkL_le Sh.int x.2.2.2 (ki + 1 + 1 + 1)
      obtain ⟨l, r, row, ha, _, hrd, hld⟩ := (hx.mono I.le).elem (I.at hat)
      obtain ⟨v1, rfl, s1⟩ := rd_proof.1 hrd
      have hld : g.ld l (r + i) 0 4 = some [.int .i64 (ki), .int .i64 (ki + 1), .string (mtext (ki + 1 + 1)), v1] := hld
      have s1 : Sl g Sh.int (mrkL (Sh.mkd Sh.int) x.2.2.2 (ki + 1 + 1 + 1)).1 v1 := s1
      obtain ⟨a1, c1, rfl⟩ := s1.isSlice
      refine ⟨l, r, ha, Int.natCast_nonneg _, hlt, _, ld_cells (k := 0) (m := 1) hld (Nat.le_of_ble_eq_true rfl), bs_dn (fun e => absurd rfl e) (fun _ => ?_)⟩
      try rw [wrap_i64 (n := ki + 1) (by omega)]
      refine ⟨l, r, ha, Int.natCast_nonneg _, hlt, _, ld_cells (k := 1) (m := 1) hld (Nat.le_of_ble_eq_true rfl), bs_dn (fun e => absurd rfl e) (fun _ => ?_)⟩
      try rw [wrap_i64 (n := ki + 1 + 1) (by omega)]
      obtain ⟨_, t1, A1, lt1, wt1, rfl⟩ := mt_spec (ki + 1 + 1) _ I.wf (by omega)
      refine ⟨l, r, ha, Int.natCast_nonneg _, hlt, _, ld_cells (k := 2) (m := 1) hld (Nat.le_of_ble_eq_true rfl), _, _, A1, ⟨_, lt1.ld (ld_cells (k := 2) (m := 1) hld (Nat.le_of_ble_eq_true rfl)), rfl⟩, bs_dn (fun e => absurd rfl e) (fun _ => ?_)⟩
      have hld := lt1.ld hld
      have s1 := s1.mono lt1
      try rw [wrap_i64 (n := ki + 1 + 1 + 1) (by omega)]
      obtain ⟨_, t2, A2, rfl, wt2, lt2⟩ := hdInt64S _ wt1 x.2.2.2 _ (ki + 1 + 1 + 1) s1 (by omega) (by omega)
      refine ⟨l, r, ha, Int.natCast_nonneg _, hlt, _, _, _, ld_cells (k := 3) (m := 1) hld (Nat.le_of_ble_eq_true rfl), _, _, A2, bs_d (fun e => absurd e (by omega)) (fun _ => ?_)⟩
      have hld := lt2.ld hld
      have s1 := s1.mono lt2
      exact ⟨(i + 1, (Sh.mkd proofSh x ki).2, _), rfl, by rw [wrap_i64 (by omega)] <;> rfl, rfl, I.step hat wt2 (lt1.trans lt2), by dsimp only; omega, fun _ h => h, fun _ _ h => h⟩
    · exact ⟨g, by rw [I.finish (by omega)], rfl, I.wf, I.le⟩
  · (refine vc_mp (by kernel_rfl : (∃ (i : Nat × Int × AHeap), Qnh (Qnv a xs c) k i h (Qo9 h xs k i) (∀ (j : AHeap), Qnd j h → Q (Qmn (Qny xs k)) j) (∀ (v : Value) (h : AHeap), False → Q v h)) = _) ?_; delta Qmn Qn4 Qn5 Qn6 Qn9 Qnd Qnh Qnv Qny Qo9)
    exact ⟨(0, k, h), rfl, rfl, rfl, rfl, .start hw hk, fun j hj => HQ _ _ ⟨rfl, hj⟩, fun _ _ h => h.elim⟩
def Qoa (a : Qpl) (b : Qpu) (c : Nat) := Value.slice a (List.length b) c
def Qob (a : Qpu) (b : Int) := Prod.fst (mrkL (Sh.mkd changeSh) a b)
def Qoc (a : Qpv) := Prod.fst (Prod.snd (Prod.snd a))
def Qod (a : Qpu) (b : Int) := Prod.snd (mrkL (Sh.mkd changeSh) a b)
def Qoe (a : Qpv) := Prod.fst (Prod.snd a)
def Qof (a : Qpv) := (↑(Prod.fst a) : Int)
def Qog (a : Qpl) (b c : Nat) (d : Qpv) (e : Qpu) (f : Prop) := Qmu (Qn3 a b c 3) (Qof d) (List.length e) f
def Qoh (a : Qpj) (b : Qpu) (c : Int) (d : Qpl) (e : Nat) (f : Qpk) (g : Qpv) := MkI changeSh a b c (Qoa d b e) f (Prod.fst g) (Qoe g) (Qoc g) (Prod.snd (Prod.snd (Prod.snd g)))
theorem mkChangeS (h : AHeap) (hw : h.wf) (xs : List (Sh.T changeSh)) (v : Value) (ids : List Nat) (so : So h changeSh xs v ids) (nd : ids.Nodup) (k : Int) (hk : 0 ≤ k) (hb : (mrkL (Sh.mkd changeSh) xs k).2 ≤ 1000000000000000) :
    ∃ w h', ACall Tryz.prog 45 [v, .int .i64 k] h w h' ∧ w = .int .i64 (mrkL (Sh.mkd changeSh) xs k).2 ∧ h'.wf ∧ Out ids h h' ∧ So h' changeSh (mrkL (Sh.mkd changeSh) xs k).1 v ids := by
  have hn : (xs.length : Int) ≤ 1000000000000000 := by have := mrkL_cn (Sh.mkd_cn changeSh) xs k; have := len_le_sum (c := Sh.cn changeSh) (xs := xs) (fun x => by simp only [Sh.cn]; omega); omega
  obtain ⟨a, c, rfl⟩ := so.sl.isSlice
  refine acall_q fun Q HQ => ?_
  refine acall_vc (fun _ => false) (fun _ => []) (fun _ => mkLp changeSh h xs k (.slice a xs.length c) ids) mixed Tryz.func45 rfl rfl rfl (Nat.le_of_ble_eq_true rfl) ?_ ?_
  · (refine vc_mp (by kernel_rfl : (Qml (∀ (i : Nat × Int × AHeap × List (Sh.T changeSh)), Qoh h xs k a c ids i → bs (decide (Qof i < (↑(List.length xs) : Int))) (∃ (l r : Nat), Qog a l r i xs (∃ (h' : AHeap), Qmv (Qoc i) l r (Qof i) 0 [Qmn (Qoe i)] h' (∃ (l r : Nat), Qog a l r i xs (∃ (h'_1 : AHeap), Qmv h' l r (Qof i) 1 [Qmn (Qmw (Qoe i))] h'_1 (∃ (l r : Nat), Qog a l r i xs (∃ (a_2 : Option Addr) (n c_1 : Nat), Qn8 h'_1 l r (Qof i) 2 = some [Value.slice a_2 n c_1] ∧ (∃ (x : Int) (h' : AHeap), Qo3 102 a_2 n c_1 (Qoe i) h'_1 x h' (∃ (j : Nat × Int × AHeap × List (Sh.T changeSh)), Qmx (Qoa a xs c) x (Qoe j) (Qof i) (Qof j) (Qoc j) h' (Qoh h xs k a c ids j) (List.length xs) (Prod.fst j) (Prod.fst i) (∀ (k_1 : AHeap), Qn0 k_1 ids h (So k_1 changeSh (Qob xs k) (Qoa a xs c) ids)) (∀ (v : Value) (h : AHeap), Qmy))))))))) (∃ (j : AHeap), Qmo (Qoe i) (Qod xs k) j (Qoc i) ids h (So j changeSh (Qob xs k) (Qoa a xs c) ids))) (Qnu True)) = _) ?_; delta Qmk Qml Qmn Qmo Qmu Qmv Qmw Qmx Qmy Qmz Qn0 Qn3 Qn8 Qnu Qo2 Qo3 Qoa Qob Qoc Qod Qoe Qof Qog Qoh)
    simp only [true_and, and_true]
    rintro ⟨i, ki, g, ys⟩ I
    dsimp only at *
    have hi := I.hi
    have k0 := I.k0
    refine bs_d (fun hlt => ?_) (fun hge => ?_)
    · obtain ⟨x, hx⟩ : ∃ y : Sh.T changeSh, xs[i]? = some y := ⟨_, List.getElem?_eq_getElem (by omega)⟩
      have bd : (mrkL (Sh.mkd proofSh) x.2.2 (ki + 1 + 1)).2 ≤ 1000000000000000 := I.bound hx hb
      obtain ⟨l, r, n', c', rows, cs, js, e, hin, E0, ro, hlj, ndj, hsub, fin⟩ := I.so.elem nd I.wf (I.at hx)
      cases e
      have q1 := Sh.mrkL_le proofSh x.2.2 (ki + 1 + 1)
      obtain ⟨v1, j1, rfl, rfl, s1⟩ := ro_change.1 ro
      obtain ⟨a1, c1, rfl⟩ := s1.sl.isSlice
      try simp only [List.mem_append, not_or, List.append_nil, List.nil_append, List.not_mem_nil, not_false_eq_true, true_and, and_true] at hlj
      try simp only [List.nodup_append, List.append_nil, List.nil_append, List.nodup_nil, List.not_mem_nil, List.mem_append, false_imp_iff, implies_true, true_and, and_true] at ndj
      obtain ⟨g1, w1, E1, o1⟩ := E0.wr 0 [.int .i64 (ki)] [.int .i64 (ki), .int .i64 x.2.1, _] (Nat.le_of_ble_eq_true rfl) rfl
      have s1 := s1.out o1 (nin1 hlj)
      refine ⟨l, r, rfl, Int.natCast_nonneg _, hlt, g1, w1, ?_⟩
      obtain ⟨g2, w2, E2, o2⟩ := E1.wr 1 [.int .i64 (ki + 1)] [.int .i64 (ki), .int .i64 (ki + 1), _] (Nat.le_of_ble_eq_true rfl) rfl
      have s1 := s1.out o2 (nin1 hlj)
      try rw [wrap_i64 (n := ki + 1) (by omega)]
      refine ⟨l, r, rfl, Int.natCast_nonneg _, hlt, g2, w2, ?_⟩
      try rw [wrap_i64 (n := ki + 1 + 1) (by omega)]
      obtain ⟨_, t1, A1, rfl, wt1, ot1, s1⟩ := mkProofS _ E2.wf x.2.2 _ _ s1 ndj (ki + 1 + 1) (by omega) (by omega)
      refine ⟨l, r, rfl, Int.natCast_nonneg _, hlt, _, _, _, E2.ld 2 1 (Nat.le_of_ble_eq_true rfl), _, _, A1, ?_⟩
      have F1' := E2.call ot1 wt1 hlj (by intro z hz; simp [hz])
      have so2 := fin _ _ (Sh.mkd changeSh x ki).1 F1' (ro_change.2 ⟨_, _, rfl, rfl, s1⟩)
      exact ⟨(i + 1, (Sh.mkd changeSh x ki).2, _, ys.set i (Sh.mkd changeSh x ki).1), rfl, by rw [wrap_i64 (by omega)] <;> rfl, rfl, I.step hx F1'.wf (F1'.out.widen hsub) so2, by dsimp only; omega, fun _ h => h, fun _ _ h => h⟩
    · obtain ⟨e1, e2⟩ := I.finish (by omega)
      exact ⟨g, by rw [e1], rfl, I.wf, I.out, e2⟩
  · (refine vc_mp (by kernel_rfl : (∃ (i : Nat × Int × AHeap × List (Sh.T changeSh)), Qn4 (Qoa a xs c) k (Qoe i) (Qof i) (Qoc i) h (Qoh h xs k a c ids i) (∀ (j : AHeap), Qmz j ids h (So j changeSh (Qob xs k) (Qoa a xs c) ids) → Q (Qmn (Qod xs k)) j) (∀ (v : Value) (h : AHeap), False → Q v h)) = _) ?_; delta Qmn Qmz Qn4 Qoa Qob Qoc Qod Qoe Qof Qoh)
    exact ⟨(0, k, h, xs), rfl, rfl, rfl, rfl, .start hw hk so, fun j hj => HQ _ _ ⟨rfl, hj⟩, fun _ _ h => h.elim⟩
def Qoi (a : Qpl) (b c : Nat) (d : Qpp) (e : Qpu) (f : Prop) := Qmu (Qn3 a b c 3) (Qn9 d) (List.length e) f
def Qoj (a : Qpj) (b : Qpu) (c : Int) (d : Qpp) := HdI changeSh a b c (Prod.fst d) (Qn6 d) (Qn5 d)
theorem hdChangeS (h : AHeap) (hw : h.wf) (xs : List (Sh.T changeSh)) (v : Value) (k : Int) (hx : Sl h changeSh (mrkL (Sh.mkd changeSh) xs k).1 v) (hk : 0 ≤ k) (hb : (mrkL (Sh.mkd changeSh) xs k).2 ≤ 1000000000000000) :
    ∃ w h', ACall Tryz.prog 48 [v, .int .i64 k] h w h' ∧ w = .int .i64 (mrkL (Sh.mkd changeSh) xs k).2 ∧ h'.wf ∧ h.Le h' := by
  have hn : (xs.length : Int) ≤ 1000000000000000 := by have := mrkL_cn (Sh.mkd_cn changeSh) xs k; have := len_le_sum (c := Sh.cn changeSh) (xs := xs) (fun x => by simp only [Sh.cn]; omega); omega
  obtain ⟨a, c, rfl⟩ := hx.isSlice
  rw [mrkL_len] at hx ⊢
  refine acall_q fun Q HQ => ?_
  refine acall_vc (fun _ => false) (fun _ => []) (fun _ => hdLp changeSh h xs k (.slice a xs.length c)) mixed Tryz.func48 rfl rfl rfl (Nat.le_of_ble_eq_true rfl) ?_ ?_
  · (refine vc_mp (by kernel_rfl : (Qml (∀ (i : Nat × Int × AHeap), Qoj h xs k i → bs (decide (Qn9 i < (↑(List.length xs) : Int))) (∃ (l r : Nat), Qoi a l r i xs (∃ (x : Int), Qnb i l r x (decide (x = Qn6 i)) (∃ (l r : Nat), Qoi a l r i xs (∃ (x : Int), Qo8 i l r 1 x (decide (x = Qng i)) (∃ (l r : Nat), Qoi a l r i xs (∃ (a_2 : Option Addr) (n c_1 : Nat), Qna i l r 2 [Value.slice a_2 n c_1] (∃ (x : Int) (h' : AHeap), Qo3 103 a_2 n c_1 (Qn6 i) (Qn5 i) x h' (bs (decide (x < 0)) False (∃ (j : Nat × Int × AHeap), Qnc (Qoa a xs c) x j i h' (Qoj h xs k j) (List.length xs) (∀ (k : AHeap), Qne k h) (∀ (v : Value) (h : AHeap), Qmy)))))))))) (∃ (j : AHeap), Qn7 i (Qod xs k) j h)) (Qo6 (True ∧ True ∧ Qmm ∧ True))) = _) ?_; delta Qmk Qml Qmm Qmn Qmu Qmw Qmy Qn3 Qn5 Qn6 Qn7 Qn8 Qn9 Qna Qnb Qnc Qnd Qne Qng Qo2 Qo3 Qo6 Qo8 Qoa Qod Qoi Qoj)
    simp only [true_and, and_true]
    rintro ⟨i, ki, g⟩ I
    dsimp only at *
    have hi := I.hi
    have k0 := I.k0
    refine bs_d (fun hlt => ?_) (fun hge => ?_)
    · obtain ⟨x, hat⟩ : ∃ y : Sh.T changeSh, xs[i]? = some y := ⟨_, List.getElem?_eq_getElem (by omega)⟩
      have bd : (mrkL (Sh.mkd proofSh) x.2.2 (ki + 1 + 1)).2 ≤ 1000000000000000 := I.bound hat hb
      have q1 := Sh.mrkL_le proofSh x.2.2 (ki + 1 + 1)
      obtain ⟨l, r, row, ha, _, hrd, hld⟩ := (hx.mono I.le).elem (I.at hat)
      obtain ⟨v1, rfl, s1⟩ := rd_change.1 hrd
      have hld : g.ld l (r + i) 0 3 = some [.int .i64 (ki), .int .i64 (ki + 1), v1] := hld
      have s1 : Sl g proofSh (mrkL (Sh.mkd proofSh) x.2.2 (ki + 1 + 1)).1 v1 := s1
      obtain ⟨a1, c1, rfl⟩ := s1.isSlice
      refine ⟨l, r, ha, Int.natCast_nonneg _, hlt, _, ld_cells (k := 0) (m := 1) hld (Nat.le_of_ble_eq_true rfl), bs_dn (fun e => absurd rfl e) (fun _ => ?_)⟩
      try rw [wrap_i64 (n := ki + 1) (by omega)]
      refine ⟨l, r, ha, Int.natCast_nonneg _, hlt, _, ld_cells (k := 1) (m := 1) hld (Nat.le_of_ble_eq_true rfl), bs_dn (fun e => absurd rfl e) (fun _ => ?_)⟩
      try rw [wrap_i64 (n := ki + 1 + 1) (by omega)]
      obtain ⟨_, t1, A1, rfl, wt1, lt1⟩ := hdProofS _ I.wf x.2.2 _ (ki + 1 + 1) s1 (by omega) (by omega)
      refine ⟨l, r, ha, Int.natCast_nonneg _, hlt, _, _, _, ld_cells (k := 2) (m := 1) hld (Nat.le_of_ble_eq_true rfl), _, _, A1, bs_d (fun e => absurd e (by omega)) (fun _ => ?_)⟩
      have hld := lt1.ld hld
      have s1 := s1.mono lt1
      exact ⟨(i + 1, (Sh.mkd changeSh x ki).2, _), rfl, by rw [wrap_i64 (by omega)] <;> rfl, rfl, I.step hat wt1 lt1, by dsimp only; omega, fun _ h => h, fun _ _ h => h⟩
    · exact ⟨g, by rw [I.finish (by omega)], rfl, I.wf, I.le⟩
  · (refine vc_mp (by kernel_rfl : (∃ (i : Nat × Int × AHeap), Qnh (Qoa a xs c) k i h (Qoj h xs k i) (∀ (j : AHeap), Qnd j h → Q (Qmn (Qod xs k)) j) (∀ (v : Value) (h : AHeap), False → Q v h)) = _) ?_; delta Qmn Qn4 Qn5 Qn6 Qn9 Qnd Qnh Qoa Qod Qoj)
    exact ⟨(0, k, h), rfl, rfl, rfl, rfl, .start hw hk, fun j hj => HQ _ _ ⟨rfl, hj⟩, fun _ _ h => h.elim⟩
def Qok (a : Qpl) (b : Qpw) (c : Nat) := Value.slice a (List.length b) c
def Qol (a : Qpw) (b : Int) := Prod.fst (mrkL (Sh.mkd saySh) a b)
def Qom (a : Qpx) := Prod.fst (Prod.snd (Prod.snd a))
def Qon (a : Qpw) (b : Int) := Prod.snd (mrkL (Sh.mkd saySh) a b)
def Qoo (a : Qpx) := Prod.fst (Prod.snd a)
def Qop (a : Qpx) := (↑(Prod.fst a) : Int)
def Qoq (a : Qpl) (b c : Nat) (d : Qpx) (e : Qpw) (f : Prop) := Qmu (Qn3 a b c 6) (Qop d) (List.length e) f
def Qor (a : Qpj) (b : Qpw) (c : Int) (d : Qpl) (e : Nat) (f : Qpk) (g : Qpx) := MkI saySh a b c (Qok d b e) f (Prod.fst g) (Qoo g) (Qom g) (Prod.snd (Prod.snd (Prod.snd g)))
theorem mkSayS (h : AHeap) (hw : h.wf) (xs : List (Sh.T saySh)) (v : Value) (ids : List Nat) (so : So h saySh xs v ids) (nd : ids.Nodup) (k : Int) (hk : 0 ≤ k) (hb : (mrkL (Sh.mkd saySh) xs k).2 ≤ 1000000000000000) :
    ∃ w h', ACall Tryz.prog 14 [v, .int .i64 k] h w h' ∧ w = .int .i64 (mrkL (Sh.mkd saySh) xs k).2 ∧ h'.wf ∧ Out ids h h' ∧ So h' saySh (mrkL (Sh.mkd saySh) xs k).1 v ids := by
  have hn : (xs.length : Int) ≤ 1000000000000000 := by have := mrkL_cn (Sh.mkd_cn saySh) xs k; have := len_le_sum (c := Sh.cn saySh) (xs := xs) (fun x => by simp only [Sh.cn]; omega); omega
  obtain ⟨a, c, rfl⟩ := so.sl.isSlice
  refine acall_q fun Q HQ => ?_
  refine acall_vc (fun _ => false) (fun _ => []) (fun _ => mkLp saySh h xs k (.slice a xs.length c) ids) mixed Tryz.func14 rfl rfl rfl (Nat.le_of_ble_eq_true rfl) ?_ ?_
  · (refine vc_mp (by kernel_rfl : (Qml (∀ (i : Nat × Int × AHeap × List (Sh.T saySh)), Qor h xs k a c ids i → bs (decide (Qop i < (↑(List.length xs) : Int))) (∃ (l r : Nat), Qoq a l r i xs (∃ (h' : AHeap), Qmv (Qom i) l r (Qop i) 0 [Qmn (Qoo i)] h' (∃ (l r : Nat), Qoq a l r i xs (∃ (h'_1 : AHeap), Qmv h' l r (Qop i) 1 [Qmn (Qmw (Qoo i))] h'_1 (∃ (l r : Nat), Qoq a l r i xs (∃ (h' : AHeap), Qmv h'_1 l r (Qop i) 2 (Qo5 (Qoo i)) h' (∃ (l r : Nat), Qoq a l r i xs (∃ (h'_2 : AHeap), Qmv h' l r (Qop i) 3 (Qo5 (Qmw (Qoo i))) h'_2 (∃ (x : ByteArray) (h' : AHeap), Qnq (Qo5 (Qo2 (Qoo i))) h'_2 x h' ∧ (∃ (l r : Nat), Qoq a l r i xs (∃ (h'_3 : AHeap), Qmv h' l r (Qop i) 4 (Qnp x) h'_3 (∃ (l r : Nat), Qoq a l r i xs (∃ (a_2 : Option Addr) (n c_1 : Nat), Qn8 h'_3 l r (Qop i) 5 = some [Value.slice a_2 n c_1] ∧ (∃ (x : Int) (h' : AHeap), Qo3 45 a_2 n c_1 (Qo2 (Qmw (Qoo i))) h'_3 x h' (∃ (j : Nat × Int × AHeap × List (Sh.T saySh)), Qmx (Qok a xs c) x (Qoo j) (Qop i) (Qop j) (Qom j) h' (Qor h xs k a c ids j) (List.length xs) (Prod.fst j) (Prod.fst i) (∀ (k_1 : AHeap), Qn0 k_1 ids h (So k_1 saySh (Qol xs k) (Qok a xs c) ids)) (∀ (v : Value) (h : AHeap), Qmy)))))))))))))))) (∃ (j : AHeap), Qmo (Qoo i) (Qon xs k) j (Qom i) ids h (So j saySh (Qol xs k) (Qok a xs c) ids))) (Qnu (Qnu (Qmk True)))) = _) ?_; delta Qmk Qml Qmn Qmo Qmu Qmv Qmw Qmx Qmy Qmz Qn0 Qn3 Qn8 Qnp Qnq Qnu Qo2 Qo3 Qo5 Qok Qol Qom Qon Qoo Qop Qoq Qor)
    simp only [true_and, and_true]
    rintro ⟨i, ki, g, ys⟩ I
    dsimp only at *
    have hi := I.hi
    have k0 := I.k0
    refine bs_d (fun hlt => ?_) (fun hge => ?_)
    · obtain ⟨x, hx⟩ : ∃ y : Sh.T saySh, xs[i]? = some y := ⟨_, List.getElem?_eq_getElem (by omega)⟩
      have bd : (mrkL (Sh.mkd changeSh) x.2.2.2.2.2 (ki + 1 + 1 + 1 + 1 + 1)).2 ≤ 1000000000000000 := I.bound hx hb
      obtain ⟨l, r, n', c', rows, cs, js, e, hin, E0, ro, hlj, ndj, hsub, fin⟩ := I.so.elem nd I.wf (I.at hx)
      cases e
      have q1 := Sh.mrkL_le changeSh x.2.2.2.2.2 (ki + 1 + 1 + 1 + 1 + 1)
      obtain ⟨v1, j1, rfl, rfl, s1⟩ := ro_say.1 ro
      obtain ⟨a1, c1, rfl⟩ := s1.sl.isSlice
      try simp only [List.mem_append, not_or, List.append_nil, List.nil_append, List.not_mem_nil, not_false_eq_true, true_and, and_true] at hlj
      try simp only [List.nodup_append, List.append_nil, List.nil_append, List.nodup_nil, List.not_mem_nil, List.mem_append, false_imp_iff, implies_true, true_and, and_true] at ndj
      obtain ⟨g1, w1, E1, o1⟩ := E0.wr 0 [.int .i64 (ki)] [.int .i64 (ki), .int .i64 x.2.1, .int .i64 x.2.2.1, .int .i64 x.2.2.2.1, .string x.2.2.2.2.1, _] (Nat.le_of_ble_eq_true rfl) rfl
      have s1 := s1.out o1 (nin1 hlj)
      refine ⟨l, r, rfl, Int.natCast_nonneg _, hlt, g1, w1, ?_⟩
      obtain ⟨g2, w2, E2, o2⟩ := E1.wr 1 [.int .i64 (ki + 1)] [.int .i64 (ki), .int .i64 (ki + 1), .int .i64 x.2.2.1, .int .i64 x.2.2.2.1, .string x.2.2.2.2.1, _] (Nat.le_of_ble_eq_true rfl) rfl
      have s1 := s1.out o2 (nin1 hlj)
      try rw [wrap_i64 (n := ki + 1) (by omega)]
      refine ⟨l, r, rfl, Int.natCast_nonneg _, hlt, g2, w2, ?_⟩
      obtain ⟨g3, w3, E3, o3⟩ := E2.wr 2 [.int .i64 (ki + 1 + 1)] [.int .i64 (ki), .int .i64 (ki + 1), .int .i64 (ki + 1 + 1), .int .i64 x.2.2.2.1, .string x.2.2.2.2.1, _] (Nat.le_of_ble_eq_true rfl) rfl
      have s1 := s1.out o3 (nin1 hlj)
      try rw [wrap_i64 (n := ki + 1 + 1) (by omega)]
      refine ⟨l, r, rfl, Int.natCast_nonneg _, hlt, g3, w3, ?_⟩
      obtain ⟨g4, w4, E4, o4⟩ := E3.wr 3 [.int .i64 (ki + 1 + 1 + 1)] [.int .i64 (ki), .int .i64 (ki + 1), .int .i64 (ki + 1 + 1), .int .i64 (ki + 1 + 1 + 1), .string x.2.2.2.2.1, _] (Nat.le_of_ble_eq_true rfl) rfl
      have s1 := s1.out o4 (nin1 hlj)
      try rw [wrap_i64 (n := ki + 1 + 1 + 1) (by omega)]
      refine ⟨l, r, rfl, Int.natCast_nonneg _, hlt, g4, w4, ?_⟩
      obtain ⟨_, t1, A1, lt1, wt1, rfl⟩ := mt_spec (ki + 1 + 1 + 1 + 1) _ E4.wf (by omega)
      have E4 := E4.le lt1 wt1
      have s1 := So.le lt1 s1
      obtain ⟨g5, w5, E5, o5⟩ := E4.wr 4 [.string (mtext (ki + 1 + 1 + 1 + 1))] [.int .i64 (ki), .int .i64 (ki + 1), .int .i64 (ki + 1 + 1), .int .i64 (ki + 1 + 1 + 1), .string (mtext (ki + 1 + 1 + 1 + 1)), _] (Nat.le_of_ble_eq_true rfl) rfl
      have s1 := s1.out o5 (nin1 hlj)
      try rw [wrap_i64 (n := ki + 1 + 1 + 1 + 1) (by omega)]
      refine ⟨_, _, A1, l, r, rfl, Int.natCast_nonneg _, hlt, g5, w5, ?_⟩
      try rw [wrap_i64 (n := ki + 1 + 1 + 1 + 1 + 1) (by omega)]
      obtain ⟨_, t2, A2, rfl, wt2, ot2, s1⟩ := mkChangeS _ E5.wf x.2.2.2.2.2 _ _ s1 ndj (ki + 1 + 1 + 1 + 1 + 1) (by omega) (by omega)
      refine ⟨l, r, rfl, Int.natCast_nonneg _, hlt, _, _, _, E5.ld 5 1 (Nat.le_of_ble_eq_true rfl), _, _, A2, ?_⟩
      have F2' := E5.call ot2 wt2 hlj (by intro z hz; simp [hz])
      have so2 := fin _ _ (Sh.mkd saySh x ki).1 F2' (ro_say.2 ⟨_, _, rfl, rfl, s1⟩)
      exact ⟨(i + 1, (Sh.mkd saySh x ki).2, _, ys.set i (Sh.mkd saySh x ki).1), rfl, by rw [wrap_i64 (by omega)] <;> rfl, rfl, I.step hx F2'.wf (F2'.out.widen hsub) so2, by dsimp only; omega, fun _ h => h, fun _ _ h => h⟩
    · obtain ⟨e1, e2⟩ := I.finish (by omega)
      exact ⟨g, by rw [e1], rfl, I.wf, I.out, e2⟩
  · (refine vc_mp (by kernel_rfl : (∃ (i : Nat × Int × AHeap × List (Sh.T saySh)), Qn4 (Qok a xs c) k (Qoo i) (Qop i) (Qom i) h (Qor h xs k a c ids i) (∀ (j : AHeap), Qmz j ids h (So j saySh (Qol xs k) (Qok a xs c) ids) → Q (Qmn (Qon xs k)) j) (∀ (v : Value) (h : AHeap), False → Q v h)) = _) ?_; delta Qmn Qmz Qn4 Qok Qol Qom Qon Qoo Qop Qor)
    exact ⟨(0, k, h, xs), rfl, rfl, rfl, rfl, .start hw hk so, fun j hj => HQ _ _ ⟨rfl, hj⟩, fun _ _ h => h.elim⟩
def Qos (a : Qpl) (b c : Nat) (d : Qpp) (e : Qpw) (f : Prop) := Qmu (Qn3 a b c 6) (Qn9 d) (List.length e) f
def Qot (a : Qpj) (b : Qpw) (c : Int) (d : Qpp) := HdI saySh a b c (Prod.fst d) (Qn6 d) (Qn5 d)
theorem hdSayS (h : AHeap) (hw : h.wf) (xs : List (Sh.T saySh)) (v : Value) (k : Int) (hx : Sl h saySh (mrkL (Sh.mkd saySh) xs k).1 v) (hk : 0 ≤ k) (hb : (mrkL (Sh.mkd saySh) xs k).2 ≤ 1000000000000000) :
    ∃ w h', ACall Tryz.prog 15 [v, .int .i64 k] h w h' ∧ w = .int .i64 (mrkL (Sh.mkd saySh) xs k).2 ∧ h'.wf ∧ h.Le h' := by
  have hn : (xs.length : Int) ≤ 1000000000000000 := by have := mrkL_cn (Sh.mkd_cn saySh) xs k; have := len_le_sum (c := Sh.cn saySh) (xs := xs) (fun x => by simp only [Sh.cn]; omega); omega
  obtain ⟨a, c, rfl⟩ := hx.isSlice
  rw [mrkL_len] at hx ⊢
  refine acall_q fun Q HQ => ?_
  refine acall_vc (fun _ => false) (fun r => match r with | 16 => [(0, 0, []), (1, 0, []), (2, 0, []), (3, 0, []), (5, 0, []), (4, 1, []), (6, 3, [4]), (7, 0, [])] | _ => []) (fun _ => hdLp saySh h xs k (.slice a xs.length c)) mixed Tryz.func15 rfl rfl rfl (Nat.le_of_ble_eq_true rfl) ?_ ?_
  · (refine vc_mp (by kernel_rfl : (Qml (∀ (i : Nat × Int × AHeap), Qot h xs k i → bs (decide (Qn9 i < (↑(List.length xs) : Int))) (∃ (l r : Nat), Qos a l r i xs (∃ (x : Int), Qnb i l r x (decide (x = Qn6 i)) (∃ (l r : Nat), Qos a l r i xs (∃ (x : Int), Qo8 i l r 1 x (decide (x = Qng i)) (∃ (l r : Nat), Qos a l r i xs (∃ (x : Int), Qo8 i l r 2 x (decide (x = Qo2 (Qn6 i))) (∃ (l r : Nat), Qos a l r i xs (∃ (x : Int), Qo8 i l r 3 x (decide (x = Qo2 (Qng i))) (∃ (l r : Nat), Qos a l r i xs (∃ (x : ByteArray), Qna i l r 4 (Qnp x) (∃ (x_1 : ByteArray) (h' : AHeap), Qnr (Qo5 (Qo2 (Qn6 i))) i x_1 h' (∃ (x_2 : ByteArray), Qnt h' l r i 4 (Qnp x_2) (Value.string x_2 = Value.string x)) (decide (x = x_1)) (∃ (l r : Nat), Qos a l r i xs (∃ (a_2 : Option Addr) (n c_1 : Nat), Qnt h' l r i 5 [Value.slice a_2 n c_1] (∃ (x : Int) (h'_1 : AHeap), Qo3 48 a_2 n c_1 (Qo2 (Qng i)) h' x h'_1 (bs (decide (x < 0)) False (∃ (j : Nat × Int × AHeap), Qnc (Qok a xs c) x j i h'_1 (Qot h xs k j) (List.length xs) (∀ (k : AHeap), Qne k h) (∀ (v : Value) (h : AHeap), Qmy))))))))))))))))) (∃ (j : AHeap), Qn7 i (Qon xs k) j h)) (Qo6 (Qo6 (Qmk Qmm ∧ True ∧ True ∧ True ∧ Qmm ∧ True)))) = _) ?_; delta Qmk Qml Qmm Qmn Qmu Qmw Qmy Qn3 Qn5 Qn6 Qn7 Qn8 Qn9 Qna Qnb Qnc Qnd Qne Qng Qnp Qnq Qnr Qnt Qo2 Qo3 Qo5 Qo6 Qo8 Qok Qon Qos Qot)
    simp only [true_and, and_true]
    rintro ⟨i, ki, g⟩ I
    dsimp only at *
    have hi := I.hi
    have k0 := I.k0
    refine bs_d (fun hlt => ?_) (fun hge => ?_)
    · obtain ⟨x, hat⟩ : ∃ y : Sh.T saySh, xs[i]? = some y := ⟨_, List.getElem?_eq_getElem (by omega)⟩
      have bd : (mrkL (Sh.mkd changeSh) x.2.2.2.2.2 (ki + 1 + 1 + 1 + 1 + 1)).2 ≤ 1000000000000000 := I.bound hat hb
      have q1 := Sh.mrkL_le changeSh x.2.2.2.2.2 (ki + 1 + 1 + 1 + 1 + 1)
      obtain ⟨l, r, row, ha, _, hrd, hld⟩ := (hx.mono I.le).elem (I.at hat)
      obtain ⟨v1, rfl, s1⟩ := rd_say.1 hrd
      have hld : g.ld l (r + i) 0 6 = some [.int .i64 (ki), .int .i64 (ki + 1), .int .i64 (ki + 1 + 1), .int .i64 (ki + 1 + 1 + 1), .string (mtext (ki + 1 + 1 + 1 + 1)), v1] := hld
      have s1 : Sl g changeSh (mrkL (Sh.mkd changeSh) x.2.2.2.2.2 (ki + 1 + 1 + 1 + 1 + 1)).1 v1 := s1
      obtain ⟨a1, c1, rfl⟩ := s1.isSlice
      refine ⟨l, r, ha, Int.natCast_nonneg _, hlt, _, ld_cells (k := 0) (m := 1) hld (Nat.le_of_ble_eq_true rfl), bs_dn (fun e => absurd rfl e) (fun _ => ?_)⟩
      try rw [wrap_i64 (n := ki + 1) (by omega)]
      refine ⟨l, r, ha, Int.natCast_nonneg _, hlt, _, ld_cells (k := 1) (m := 1) hld (Nat.le_of_ble_eq_true rfl), bs_dn (fun e => absurd rfl e) (fun _ => ?_)⟩
      try rw [wrap_i64 (n := ki + 1 + 1) (by omega)]
      refine ⟨l, r, ha, Int.natCast_nonneg _, hlt, _, ld_cells (k := 2) (m := 1) hld (Nat.le_of_ble_eq_true rfl), bs_dn (fun e => absurd rfl e) (fun _ => ?_)⟩
      try rw [wrap_i64 (n := ki + 1 + 1 + 1) (by omega)]
      refine ⟨l, r, ha, Int.natCast_nonneg _, hlt, _, ld_cells (k := 3) (m := 1) hld (Nat.le_of_ble_eq_true rfl), bs_dn (fun e => absurd rfl e) (fun _ => ?_)⟩
      try rw [wrap_i64 (n := ki + 1 + 1 + 1 + 1) (by omega)]
      obtain ⟨_, t1, A1, lt1, wt1, rfl⟩ := mt_spec (ki + 1 + 1 + 1 + 1) _ I.wf (by omega)
      refine ⟨l, r, ha, Int.natCast_nonneg _, hlt, _, ld_cells (k := 4) (m := 1) hld (Nat.le_of_ble_eq_true rfl), _, _, A1, ⟨_, lt1.ld (ld_cells (k := 4) (m := 1) hld (Nat.le_of_ble_eq_true rfl)), rfl⟩, bs_dn (fun e => absurd rfl e) (fun _ => ?_)⟩
      have hld := lt1.ld hld
      have s1 := s1.mono lt1
      try rw [wrap_i64 (n := ki + 1 + 1 + 1 + 1 + 1) (by omega)]
      obtain ⟨_, t2, A2, rfl, wt2, lt2⟩ := hdChangeS _ wt1 x.2.2.2.2.2 _ (ki + 1 + 1 + 1 + 1 + 1) s1 (by omega) (by omega)
      refine ⟨l, r, ha, Int.natCast_nonneg _, hlt, _, _, _, ld_cells (k := 5) (m := 1) hld (Nat.le_of_ble_eq_true rfl), _, _, A2, bs_d (fun e => absurd e (by omega)) (fun _ => ?_)⟩
      have hld := lt2.ld hld
      have s1 := s1.mono lt2
      exact ⟨(i + 1, (Sh.mkd saySh x ki).2, _), rfl, by rw [wrap_i64 (by omega)] <;> rfl, rfl, I.step hat wt2 (lt1.trans lt2), by dsimp only; omega, fun _ h => h, fun _ _ h => h⟩
    · exact ⟨g, by rw [I.finish (by omega)], rfl, I.wf, I.le⟩
  · (refine vc_mp (by kernel_rfl : (∃ (i : Nat × Int × AHeap), Qnh (Qok a xs c) k i h (Qot h xs k i) (∀ (j : AHeap), Qnd j h → Q (Qmn (Qon xs k)) j) (∀ (v : Value) (h : AHeap), False → Q v h)) = _) ?_; delta Qmn Qn4 Qn5 Qn6 Qn9 Qnd Qnh Qok Qon Qot)
    exact ⟨(0, k, h), rfl, rfl, rfl, rfl, .start hw hk, fun j hj => HQ _ _ ⟨rfl, hj⟩, fun _ _ h => h.elim⟩
def Qou (a : Qpl) (b : Qpy) (c : Nat) := Value.slice a (List.length b) c
def Qov (a : Qpy) (b : Int) := Prod.fst (mrkL (Sh.mkd voteSh) a b)
def Qow (a : Qpz) := Prod.fst (Prod.snd (Prod.snd a))
def Qox (a : Qpy) (b : Int) := Prod.snd (mrkL (Sh.mkd voteSh) a b)
def Qoy (a : Qpz) := Prod.fst (Prod.snd a)
def Qoz (a : Qpz) := (↑(Prod.fst a) : Int)
def Qp0 (a : Qpl) (b c : Nat) (d : Qpz) (e : Qpy) (f : Prop) := Qmu (Qn3 a b c 5) (Qoz d) (List.length e) f
def Qp1 (a : Qpj) (b : Qpy) (c : Int) (d : Qpl) (e : Nat) (f : Qpk) (g : Qpz) := MkI voteSh a b c (Qou d b e) f (Prod.fst g) (Qoy g) (Qow g) (Prod.snd (Prod.snd (Prod.snd g)))
theorem mkVoteS (h : AHeap) (hw : h.wf) (xs : List (Sh.T voteSh)) (v : Value) (ids : List Nat) (so : So h voteSh xs v ids) (nd : ids.Nodup) (k : Int) (hk : 0 ≤ k) (hb : (mrkL (Sh.mkd voteSh) xs k).2 ≤ 1000000000000000) :
    ∃ w h', ACall Tryz.prog 44 [v, .int .i64 k] h w h' ∧ w = .int .i64 (mrkL (Sh.mkd voteSh) xs k).2 ∧ h'.wf ∧ Out ids h h' ∧ So h' voteSh (mrkL (Sh.mkd voteSh) xs k).1 v ids := by
  have hn : (xs.length : Int) ≤ 1000000000000000 := by have := mrkL_cn (Sh.mkd_cn voteSh) xs k; have := len_le_sum (c := Sh.cn voteSh) (xs := xs) (fun x => by simp only [Sh.cn]; omega); omega
  obtain ⟨a, c, rfl⟩ := so.sl.isSlice
  refine acall_q fun Q HQ => ?_
  refine acall_vc (fun _ => false) (fun _ => []) (fun _ => mkLp voteSh h xs k (.slice a xs.length c) ids) mixed Tryz.func44 rfl rfl rfl (Nat.le_of_ble_eq_true rfl) ?_ ?_
  · (refine vc_mp (by kernel_rfl : (Qml (∀ (i : Nat × Int × AHeap × List (Sh.T voteSh)), Qp1 h xs k a c ids i → bs (decide (Qoz i < (↑(List.length xs) : Int))) (∃ (l r : Nat), Qp0 a l r i xs (∃ (h' : AHeap), Qmv (Qow i) l r (Qoz i) 0 [Qmn (Qoy i)] h' (∃ (l r : Nat), Qp0 a l r i xs (∃ (h'_1 : AHeap), Qmv h' l r (Qoz i) 1 [Qmn (Qmw (Qoy i))] h'_1 (∃ (l r : Nat), Qp0 a l r i xs (∃ (h' : AHeap), Qmv h'_1 l r (Qoz i) 2 (Qo5 (Qoy i)) h' (∃ (x : ByteArray) (h'_2 : AHeap), Qnq (Qo5 (Qmw (Qoy i))) h' x h'_2 ∧ (∃ (l r : Nat), Qp0 a l r i xs (∃ (h' : AHeap), Qmv h'_2 l r (Qoz i) 3 (Qnp x) h' (∃ (l r : Nat), Qp0 a l r i xs (∃ (h'_3 : AHeap), Qmv h' l r (Qoz i) 4 (Qo5 (Qo2 (Qoy i))) h'_3 (∃ (j : Nat × Int × AHeap × List (Sh.T voteSh)), Qmx (Qou a xs c) (Qo2 (Qo2 (Qmw (Qoy i)))) (Qoy j) (Qoz i) (Qoz j) (Qow j) h'_3 (Qp1 h xs k a c ids j) (List.length xs) (Prod.fst j) (Prod.fst i) (∀ (k_1 : AHeap), Qn0 k_1 ids h (So k_1 voteSh (Qov xs k) (Qou a xs c) ids)) (∀ (v : Value) (h : AHeap), Qmy))))))))))))) (∃ (j : AHeap), Qmo (Qoy i) (Qox xs k) j (Qow i) ids h (So j voteSh (Qov xs k) (Qou a xs c) ids))) (Qnu (Qnu Qmm))) = _) ?_; delta Qmk Qml Qmm Qmn Qmo Qmu Qmv Qmw Qmx Qmy Qmz Qn0 Qn3 Qnp Qnq Qnu Qo2 Qo5 Qou Qov Qow Qox Qoy Qoz Qp0 Qp1)
    simp only [true_and, and_true]
    rintro ⟨i, ki, g, ys⟩ I
    dsimp only at *
    have hi := I.hi
    have k0 := I.k0
    refine bs_d (fun hlt => ?_) (fun hge => ?_)
    · obtain ⟨x, hx⟩ : ∃ y : Sh.T voteSh, xs[i]? = some y := ⟨_, List.getElem?_eq_getElem (by omega)⟩
      have bd : ki + 1 + 1 + 1 + 1 + 1 ≤ 1000000000000000 := I.bound hx hb
      obtain ⟨l, r, n', c', rows, cs, js, e, hin, E0, ro, hlj, ndj, hsub, fin⟩ := I.so.elem nd I.wf (I.at hx)
      cases e
      obtain ⟨rfl, rfl⟩ := ro_vote.1 ro
      obtain ⟨g1, w1, E1, o1⟩ := E0.wr 0 [.int .i64 (ki)] [.int .i64 (ki), .int .i64 x.2.1, .int .i64 x.2.2.1, .string x.2.2.2.1, .int .i64 x.2.2.2.2] (Nat.le_of_ble_eq_true rfl) rfl
      refine ⟨l, r, rfl, Int.natCast_nonneg _, hlt, g1, w1, ?_⟩
      obtain ⟨g2, w2, E2, o2⟩ := E1.wr 1 [.int .i64 (ki + 1)] [.int .i64 (ki), .int .i64 (ki + 1), .int .i64 x.2.2.1, .string x.2.2.2.1, .int .i64 x.2.2.2.2] (Nat.le_of_ble_eq_true rfl) rfl
      try rw [wrap_i64 (n := ki + 1) (by omega)]
      refine ⟨l, r, rfl, Int.natCast_nonneg _, hlt, g2, w2, ?_⟩
      obtain ⟨g3, w3, E3, o3⟩ := E2.wr 2 [.int .i64 (ki + 1 + 1)] [.int .i64 (ki), .int .i64 (ki + 1), .int .i64 (ki + 1 + 1), .string x.2.2.2.1, .int .i64 x.2.2.2.2] (Nat.le_of_ble_eq_true rfl) rfl
      try rw [wrap_i64 (n := ki + 1 + 1) (by omega)]
      refine ⟨l, r, rfl, Int.natCast_nonneg _, hlt, g3, w3, ?_⟩
      obtain ⟨_, t1, A1, lt1, wt1, rfl⟩ := mt_spec (ki + 1 + 1 + 1) _ E3.wf (by omega)
      have E3 := E3.le lt1 wt1
      obtain ⟨g4, w4, E4, o4⟩ := E3.wr 3 [.string (mtext (ki + 1 + 1 + 1))] [.int .i64 (ki), .int .i64 (ki + 1), .int .i64 (ki + 1 + 1), .string (mtext (ki + 1 + 1 + 1)), .int .i64 x.2.2.2.2] (Nat.le_of_ble_eq_true rfl) rfl
      try rw [wrap_i64 (n := ki + 1 + 1 + 1) (by omega)]
      refine ⟨_, _, A1, l, r, rfl, Int.natCast_nonneg _, hlt, g4, w4, ?_⟩
      obtain ⟨g5, w5, E5, o5⟩ := E4.wr 4 [.int .i64 (ki + 1 + 1 + 1 + 1)] [.int .i64 (ki), .int .i64 (ki + 1), .int .i64 (ki + 1 + 1), .string (mtext (ki + 1 + 1 + 1)), .int .i64 (ki + 1 + 1 + 1 + 1)] (Nat.le_of_ble_eq_true rfl) rfl
      try rw [wrap_i64 (n := ki + 1 + 1 + 1 + 1) (by omega)]
      refine ⟨l, r, rfl, Int.natCast_nonneg _, hlt, g5, w5, ?_⟩
      try rw [wrap_i64 (n := ki + 1 + 1 + 1 + 1 + 1) (by omega)]
      have so2 := fin _ _ (Sh.mkd voteSh x ki).1 E5 (ro_vote.2 ⟨rfl, rfl⟩)
      exact ⟨(i + 1, (Sh.mkd voteSh x ki).2, _, ys.set i (Sh.mkd voteSh x ki).1), rfl, by rw [wrap_i64 (by omega)] <;> rfl, rfl, I.step hx E5.wf (E5.out.widen hsub) so2, by dsimp only; omega, fun _ h => h, fun _ _ h => h⟩
    · obtain ⟨e1, e2⟩ := I.finish (by omega)
      exact ⟨g, by rw [e1], rfl, I.wf, I.out, e2⟩
  · (refine vc_mp (by kernel_rfl : (∃ (i : Nat × Int × AHeap × List (Sh.T voteSh)), Qn4 (Qou a xs c) k (Qoy i) (Qoz i) (Qow i) h (Qp1 h xs k a c ids i) (∀ (j : AHeap), Qmz j ids h (So j voteSh (Qov xs k) (Qou a xs c) ids) → Q (Qmn (Qox xs k)) j) (∀ (v : Value) (h : AHeap), False → Q v h)) = _) ?_; delta Qmn Qmz Qn4 Qou Qov Qow Qox Qoy Qoz Qp1)
    exact ⟨(0, k, h, xs), rfl, rfl, rfl, rfl, .start hw hk so, fun j hj => HQ _ _ ⟨rfl, hj⟩, fun _ _ h => h.elim⟩
def Qp2 (a : Qpl) (b c : Nat) (d : Qpp) (e : Qpy) (f : Prop) := Qmu (Qn3 a b c 5) (Qn9 d) (List.length e) f
def Qp3 (a : Qpj) (b : Qpy) (c : Int) (d : Qpp) := HdI voteSh a b c (Prod.fst d) (Qn6 d) (Qn5 d)
theorem hdVoteS (h : AHeap) (hw : h.wf) (xs : List (Sh.T voteSh)) (v : Value) (k : Int) (hx : Sl h voteSh (mrkL (Sh.mkd voteSh) xs k).1 v) (hk : 0 ≤ k) (hb : (mrkL (Sh.mkd voteSh) xs k).2 ≤ 1000000000000000) :
    ∃ w h', ACall Tryz.prog 114 [v, .int .i64 k] h w h' ∧ w = .int .i64 (mrkL (Sh.mkd voteSh) xs k).2 ∧ h'.wf ∧ h.Le h' := by
  have hn : (xs.length : Int) ≤ 1000000000000000 := by have := mrkL_cn (Sh.mkd_cn voteSh) xs k; have := len_le_sum (c := Sh.cn voteSh) (xs := xs) (fun x => by simp only [Sh.cn]; omega); omega
  obtain ⟨a, c, rfl⟩ := hx.isSlice
  rw [mrkL_len] at hx ⊢
  refine acall_q fun Q HQ => ?_
  refine acall_vc (fun _ => false) (fun r => match r with | 13 => [(0, 0, []), (1, 0, []), (2, 0, []), (3, 0, []), (5, 0, []), (4, 1, []), (6, 3, [4]), (7, 0, [])] | _ => []) (fun _ => hdLp voteSh h xs k (.slice a xs.length c)) mixed Tryz.func114 rfl rfl rfl (Nat.le_of_ble_eq_true rfl) ?_ ?_
  · (refine vc_mp (by kernel_rfl : (Qml (∀ (i : Nat × Int × AHeap), Qp3 h xs k i → bs (decide (Qn9 i < (↑(List.length xs) : Int))) (∃ (l r : Nat), Qp2 a l r i xs (∃ (x : Int), Qnb i l r x (decide (x = Qn6 i)) (∃ (l r : Nat), Qp2 a l r i xs (∃ (x : Int), Qo8 i l r 1 x (decide (x = Qng i)) (∃ (l r : Nat), Qp2 a l r i xs (∃ (x : Int), Qo8 i l r 2 x (decide (x = Qo2 (Qn6 i))) (∃ (l r : Nat), Qp2 a l r i xs (∃ (x : ByteArray), Qna i l r 3 (Qnp x) (∃ (x_1 : ByteArray) (h' : AHeap), Qnr (Qo5 (Qng i)) i x_1 h' (∃ (x_2 : ByteArray), Qnt h' l r i 3 (Qnp x_2) (Value.string x_2 = Value.string x)) (decide (x = x_1)) (∃ (l r : Nat), Qp2 a l r i xs (∃ (x : Int), Qnt h' l r i 4 [Qmn x] (bs (not (decide (x = Qo2 (Qo2 (Qn6 i))))) False (∃ (j : Nat × Int × AHeap), Qnc (Qou a xs c) (Qo2 (Qo2 (Qng i))) j i h' (Qp3 h xs k j) (List.length xs) (∀ (k : AHeap), Qne k h) (∀ (v : Value) (h : AHeap), Qmy)))))))))))))) (∃ (j : AHeap), Qn7 i (Qox xs k) j h)) (Qo6 (Qo6 (Qmk Qmm ∧ True)))) = _) ?_; delta Qmk Qml Qmm Qmn Qmu Qmw Qmy Qn3 Qn5 Qn6 Qn7 Qn8 Qn9 Qna Qnb Qnc Qnd Qne Qng Qnp Qnq Qnr Qnt Qo2 Qo5 Qo6 Qo8 Qou Qox Qp2 Qp3)
    simp only [true_and, and_true]
    rintro ⟨i, ki, g⟩ I
    dsimp only at *
    have hi := I.hi
    have k0 := I.k0
    refine bs_d (fun hlt => ?_) (fun hge => ?_)
    · obtain ⟨x, hat⟩ : ∃ y : Sh.T voteSh, xs[i]? = some y := ⟨_, List.getElem?_eq_getElem (by omega)⟩
      have bd : ki + 1 + 1 + 1 + 1 + 1 ≤ 1000000000000000 := I.bound hat hb
      obtain ⟨l, r, row, ha, _, hrd, hld⟩ := (hx.mono I.le).elem (I.at hat)
      obtain rfl := rd_vote.1 hrd
      have hld : g.ld l (r + i) 0 5 = some [.int .i64 (ki), .int .i64 (ki + 1), .int .i64 (ki + 1 + 1), .string (mtext (ki + 1 + 1 + 1)), .int .i64 (ki + 1 + 1 + 1 + 1)] := hld
      refine ⟨l, r, ha, Int.natCast_nonneg _, hlt, _, ld_cells (k := 0) (m := 1) hld (Nat.le_of_ble_eq_true rfl), bs_dn (fun e => absurd rfl e) (fun _ => ?_)⟩
      try rw [wrap_i64 (n := ki + 1) (by omega)]
      refine ⟨l, r, ha, Int.natCast_nonneg _, hlt, _, ld_cells (k := 1) (m := 1) hld (Nat.le_of_ble_eq_true rfl), bs_dn (fun e => absurd rfl e) (fun _ => ?_)⟩
      try rw [wrap_i64 (n := ki + 1 + 1) (by omega)]
      refine ⟨l, r, ha, Int.natCast_nonneg _, hlt, _, ld_cells (k := 2) (m := 1) hld (Nat.le_of_ble_eq_true rfl), bs_dn (fun e => absurd rfl e) (fun _ => ?_)⟩
      try rw [wrap_i64 (n := ki + 1 + 1 + 1) (by omega)]
      obtain ⟨_, t1, A1, lt1, wt1, rfl⟩ := mt_spec (ki + 1 + 1 + 1) _ I.wf (by omega)
      refine ⟨l, r, ha, Int.natCast_nonneg _, hlt, _, ld_cells (k := 3) (m := 1) hld (Nat.le_of_ble_eq_true rfl), _, _, A1, ⟨_, lt1.ld (ld_cells (k := 3) (m := 1) hld (Nat.le_of_ble_eq_true rfl)), rfl⟩, bs_dn (fun e => absurd rfl e) (fun _ => ?_)⟩
      have hld := lt1.ld hld
      try rw [wrap_i64 (n := ki + 1 + 1 + 1 + 1) (by omega)]
      refine ⟨l, r, ha, Int.natCast_nonneg _, hlt, _, ld_cells (k := 4) (m := 1) hld (Nat.le_of_ble_eq_true rfl), bs_dn (fun e => absurd rfl e) (fun _ => ?_)⟩
      try rw [wrap_i64 (n := ki + 1 + 1 + 1 + 1 + 1) (by omega)]
      exact ⟨(i + 1, (Sh.mkd voteSh x ki).2, _), rfl, by rw [wrap_i64 (by omega)] <;> rfl, rfl, I.step hat wt1 lt1, by dsimp only; omega, fun _ h => h, fun _ _ h => h⟩
    · exact ⟨g, by rw [I.finish (by omega)], rfl, I.wf, I.le⟩
  · (refine vc_mp (by kernel_rfl : (∃ (i : Nat × Int × AHeap), Qnh (Qou a xs c) k i h (Qp3 h xs k i) (∀ (j : AHeap), Qnd j h → Q (Qmn (Qox xs k)) j) (∀ (v : Value) (h : AHeap), False → Q v h)) = _) ?_; delta Qmn Qn4 Qn5 Qn6 Qn9 Qnd Qnh Qou Qox Qp3)
    exact ⟨(0, k, h), rfl, rfl, rfl, rfl, .start hw hk, fun j hj => HQ _ _ ⟨rfl, hj⟩, fun _ _ h => h.elim⟩
def Qp4 (a : FuncId) (b : Value) (c : Int) (d : Qpj) (e : Int) (f : Qpj) (g : Prop) := ACall Tryz.prog a [b, Qmn c] d (Qmn e) f ∧ g
def Qp5 (a : Sh.T Sh.int × Sh.T Sh.int × Sh.T Sh.int × Sh.T Sh.int × Sh.T Sh.str × List (Sh.T changeSh)) := Prod.snd (Prod.snd (Prod.snd (Prod.snd (Prod.snd a))))
theorem mkSay (h : AHeap) (hw : h.wf) (x : saySh.T) (v1 : Value) (j1 : List Nat) (s1 : So h changeSh x.2.2.2.2.2 v1 j1) (nd : (j1).Nodup) (k : Int) (hk : 0 ≤ k) (hb : (saySh.mkv x k).2 ≤ 1000000000000000) :
    ∃ w h', ACall Tryz.prog 26 [.agg #[.int .i64 x.1, .int .i64 x.2.1, .int .i64 x.2.2.1, .int .i64 x.2.2.2.1, .string x.2.2.2.2.1, v1], .int .i64 k] h w h' ∧ w = .int .i64 (saySh.mkv x k).2 ∧ h'.wf ∧ Out (j1) h h' ∧ So h' changeSh (saySh.mkv x k).1.2.2.2.2.2 v1 j1 := by
  obtain ⟨a1, c1, rfl⟩ := s1.sl.isSlice
  have bd : (mrkL (Sh.mkd changeSh) x.2.2.2.2.2 k).2 ≤ 1000000000000000 := hb
  have q1 := Sh.mrkL_le changeSh x.2.2.2.2.2 k
  refine acall_q fun Q HQ => ?_
  obtain ⟨_, t1, A1, rfl, wt1, ot1, s1⟩ := mkChangeS h hw x.2.2.2.2.2 _ _ s1 nd k (by omega) (by omega)
  refine acall_vc (fun _ => false) (fun _ => []) (fun _ => .none) mixed Tryz.func26 rfl rfl rfl (Nat.le_of_ble_eq_true rfl) (by refine vc_mp (by kernel_rfl : (True ∧ True ∧ True ∧ True) = _) ?_; simp only [and_self]) ?_
  (refine vc_mp (by kernel_rfl : (∃ (x_1 : Int) (h' : AHeap), Qp4 45 (Qoa a1 (Qp5 x) c1) k h x_1 h' (Q (Qmn x_1) h')) = _) ?_; delta Qmn Qoa Qp4 Qp5)
  refine ⟨_, _, A1, ?_⟩
  exact HQ _ _ ⟨rfl, wt1, (ot1.widen (by intro z hz; (try simp only [List.mem_append, List.append_nil, List.nil_append, List.not_mem_nil, or_false, false_or] at hz ⊢); first | simp [hz] | grind)), s1⟩
def Qp6 (a : Prop) := True ∧ True ∧ Qmk Qmm ∧ True ∧ a
def Qp7 := Qmn (-1)
theorem hdSay (h : AHeap) (hw : h.wf) (x : saySh.T) (v1 : Value) (k : Int) (rd : saySh.rd h (saySh.mkv x k).1 [.int .i64 x.1, .int .i64 x.2.1, .int .i64 x.2.2.1, .int .i64 x.2.2.2.1, .string x.2.2.2.2.1, v1]) (hk : 0 ≤ k) (hb : (saySh.mkv x k).2 ≤ 1000000000000000) :
    ∃ w h', ACall Tryz.prog 115 [.agg #[.int .i64 x.1, .int .i64 x.2.1, .int .i64 x.2.2.1, .int .i64 x.2.2.2.1, .string x.2.2.2.2.1, v1], .int .i64 k] h w h' ∧ w = .int .i64 (saySh.mkv x k).2 ∧ h'.wf ∧ h.Le h' := by
  obtain ⟨y1, ec, s1⟩ := rd_say.1 rd
  cases ec
  have bd : (mrkL (Sh.mkd changeSh) x.2.2.2.2.2 k).2 ≤ 1000000000000000 := hb
  have q1 := Sh.mrkL_le changeSh x.2.2.2.2.2 k
  have s1 : Sl h changeSh (mrkL (Sh.mkd changeSh) x.2.2.2.2.2 k).1 v1 := s1
  obtain ⟨a1, c1, rfl⟩ := s1.isSlice
  refine acall_q fun Q HQ => ?_
  obtain ⟨_, t1, A1, rfl, wt1, lt1⟩ := hdChangeS h hw x.2.2.2.2.2 _ k s1 (by omega) (by omega)
  have s1 := s1.mono lt1
  refine acall_vc (fun _ => false) (fun _ => []) (fun _ => .none) mixed Tryz.func115 rfl rfl rfl (Nat.le_of_ble_eq_true rfl) (by (refine vc_mp (by kernel_rfl : (Qp6 True) = _) ?_; delta Qmk Qmm Qp6); simp only [and_self]) ?_
  (refine vc_mp (by kernel_rfl : (∃ (x_1 : Int) (h' : AHeap), Qp4 48 (Qoa a1 (Qob (Qp5 x) k) c1) k h x_1 h' (bs (decide (x_1 < 0)) (Q Qp7 h') (Q (Qmn x_1) h'))) = _) ?_; delta Qmn Qoa Qob Qp4 Qp5 Qp7)
  refine ⟨_, _, A1, bs_d (fun e => absurd e (by omega)) (fun _ => ?_)⟩
  exact HQ _ _ ⟨rfl, wt1, lt1⟩
def Qp8 (a : Qpl) (b : Sh.T Sh.int × Sh.T Sh.int × Sh.T Sh.bool × Sh.T Sh.int × Sh.T (Sh.sl voteSh) × Sh.T (Sh.sl changeSh) × Sh.T saySh × List (Sh.T Sh.str)) (c : Nat) := Qni a (Prod.snd (Prod.snd (Prod.snd (Prod.snd (Prod.snd (Prod.snd (Prod.snd b))))))) c
def Qp9 (a : Qpl) (b : Sh.T Sh.int × Sh.T Sh.int × Sh.T Sh.bool × Sh.T Sh.int × Sh.T (Sh.sl voteSh) × Sh.T (Sh.sl changeSh) × (Sh.T Sh.int × Sh.T Sh.int × Sh.T Sh.int × Sh.T Sh.int × Sh.T Sh.str × List (Sh.T changeSh)) × Sh.T (Sh.sl Sh.str)) (c : Nat) := Qoa a (Qp5 (Prod.fst (Prod.snd (Prod.snd (Prod.snd (Prod.snd (Prod.snd (Prod.snd b)))))))) c
def Qpa (a : Sh.T Sh.int × Sh.T Sh.int × Sh.T Sh.bool × Sh.T Sh.int × Sh.T (Sh.sl voteSh) × Sh.T (Sh.sl changeSh) × (Sh.T Sh.int × Sh.T Sh.int × Sh.T Sh.int × Sh.T Sh.int × ByteArray × Sh.T (Sh.sl changeSh)) × Sh.T (Sh.sl Sh.str)) := Value.string (Prod.fst (Prod.snd (Prod.snd (Prod.snd (Prod.snd (Prod.fst (Prod.snd (Prod.snd (Prod.snd (Prod.snd (Prod.snd (Prod.snd a))))))))))))
def Qpb (a : Sh.T Sh.int × Sh.T Sh.int × Sh.T Sh.bool × Sh.T Sh.int × Sh.T (Sh.sl voteSh) × Sh.T (Sh.sl changeSh) × (Sh.T Sh.int × Sh.T Sh.int × Sh.T Sh.int × Int × Sh.T (Sh.pair Sh.str (Sh.sl changeSh))) × Sh.T (Sh.sl Sh.str)) := Qmn (Prod.fst (Prod.snd (Prod.snd (Prod.snd (Prod.fst (Prod.snd (Prod.snd (Prod.snd (Prod.snd (Prod.snd (Prod.snd a)))))))))))
def Qpc (a : Sh.T Sh.int × Sh.T Sh.int × Sh.T Sh.bool × Sh.T Sh.int × Sh.T (Sh.sl voteSh) × Sh.T (Sh.sl changeSh) × (Sh.T Sh.int × Sh.T Sh.int × Int × Sh.T (Sh.pair Sh.int (Sh.pair Sh.str (Sh.sl changeSh)))) × Sh.T (Sh.sl Sh.str)) := Qmn (Prod.fst (Prod.snd (Prod.snd (Prod.fst (Prod.snd (Prod.snd (Prod.snd (Prod.snd (Prod.snd (Prod.snd a))))))))))
def Qpd (a : Sh.T Sh.int × Sh.T Sh.int × Sh.T Sh.bool × Sh.T Sh.int × Sh.T (Sh.sl voteSh) × Sh.T (Sh.sl changeSh) × (Sh.T Sh.int × Int × Sh.T (Sh.pair Sh.int (Sh.pair Sh.int (Sh.pair Sh.str (Sh.sl changeSh))))) × Sh.T (Sh.sl Sh.str)) := Qmn (Prod.fst (Prod.snd (Prod.fst (Prod.snd (Prod.snd (Prod.snd (Prod.snd (Prod.snd (Prod.snd a)))))))))
def Qpe (a : Sh.T Sh.int × Sh.T Sh.int × Sh.T Sh.bool × Sh.T Sh.int × Sh.T (Sh.sl voteSh) × Sh.T (Sh.sl changeSh) × (Int × Sh.T (Sh.pair Sh.int (Sh.pair Sh.int (Sh.pair Sh.int (Sh.pair Sh.str (Sh.sl changeSh)))))) × Sh.T (Sh.sl Sh.str)) := Qmn (Prod.fst (Prod.fst (Prod.snd (Prod.snd (Prod.snd (Prod.snd (Prod.snd (Prod.snd a))))))))
def Qpf (a : Sh.T Sh.int × Sh.T Sh.int × Sh.T Sh.bool × Sh.T Sh.int × Sh.T (Sh.sl voteSh) × List (Sh.T changeSh) × Sh.T (Sh.pair saySh (Sh.sl Sh.str))) := Prod.fst (Prod.snd (Prod.snd (Prod.snd (Prod.snd (Prod.snd a)))))
def Qpg (a : Sh.T Sh.int × Sh.T Sh.int × Sh.T Sh.bool × Sh.T Sh.int × List (Sh.T voteSh) × Sh.T (Sh.pair (Sh.sl changeSh) (Sh.pair saySh (Sh.sl Sh.str)))) := Prod.fst (Prod.snd (Prod.snd (Prod.snd (Prod.snd a))))
theorem mkReplica (h : AHeap) (hw : h.wf) (x : replicaSh.T) (v1 v2 v3 v4 : Value) (j1 j2 j3 j4 : List Nat) (s1 : So h voteSh x.2.2.2.2.1 v1 j1) (s2 : So h changeSh x.2.2.2.2.2.1 v2 j2) (s3 : So h changeSh x.2.2.2.2.2.2.1.2.2.2.2.2 v3 j3) (s4 : So h Sh.str x.2.2.2.2.2.2.2 v4 j4) (nd : (j1 ++ (j2 ++ (j3 ++ j4))).Nodup) (k : Int) (hk : 0 ≤ k) (hb : (replicaSh.mkv x k).2 ≤ 1000000000000000) :
    ∃ w h', ACall Tryz.prog 13 [.agg #[.int .i64 x.1, .int .i64 x.2.1, .bool x.2.2.1, .int .i64 x.2.2.2.1, v1, v2, .int .i64 x.2.2.2.2.2.2.1.1, .int .i64 x.2.2.2.2.2.2.1.2.1, .int .i64 x.2.2.2.2.2.2.1.2.2.1, .int .i64 x.2.2.2.2.2.2.1.2.2.2.1, .string x.2.2.2.2.2.2.1.2.2.2.2.1, v3, v4], .int .i64 k] h w h' ∧ w = .int .i64 (replicaSh.mkv x k).2 ∧ h'.wf ∧ Out (j1 ++ (j2 ++ (j3 ++ j4))) h h' ∧ So h' voteSh (replicaSh.mkv x k).1.2.2.2.2.1 v1 j1 ∧ So h' changeSh (replicaSh.mkv x k).1.2.2.2.2.2.1 v2 j2 ∧ So h' changeSh (replicaSh.mkv x k).1.2.2.2.2.2.2.1.2.2.2.2.2 v3 j3 ∧ So h' Sh.str (replicaSh.mkv x k).1.2.2.2.2.2.2.2 v4 j4 := by
  obtain ⟨a1, c1, rfl⟩ := s1.sl.isSlice
  obtain ⟨a2, c2, rfl⟩ := s2.sl.isSlice
  obtain ⟨a3, c3, rfl⟩ := s3.sl.isSlice
  obtain ⟨a4, c4, rfl⟩ := s4.sl.isSlice
  simp only [List.nodup_append, List.mem_append] at nd
  have bd : (mrkL (Sh.mkd Sh.str) x.2.2.2.2.2.2.2 (saySh.mkv x.2.2.2.2.2.2.1 (mrkL (Sh.mkd changeSh) x.2.2.2.2.2.1 (mrkL (Sh.mkd voteSh) x.2.2.2.2.1 k).2).2).2).2 ≤ 1000000000000000 := hb
  have q1 := Sh.mrkL_le voteSh x.2.2.2.2.1 k
  have q2 := Sh.mrkL_le changeSh x.2.2.2.2.2.1 (mrkL (Sh.mkd voteSh) x.2.2.2.2.1 k).2
  have q3 := Sh.mkv_le saySh x.2.2.2.2.2.2.1 (mrkL (Sh.mkd changeSh) x.2.2.2.2.2.1 (mrkL (Sh.mkd voteSh) x.2.2.2.2.1 k).2).2
  have q4 := Sh.mrkL_le Sh.str x.2.2.2.2.2.2.2 (saySh.mkv x.2.2.2.2.2.2.1 (mrkL (Sh.mkd changeSh) x.2.2.2.2.2.1 (mrkL (Sh.mkd voteSh) x.2.2.2.2.1 k).2).2).2
  refine acall_q fun Q HQ => ?_
  obtain ⟨_, t1, A1, rfl, wt1, ot1, s1⟩ := mkVoteS h hw x.2.2.2.2.1 _ _ s1 nd.1 k (by omega) (by omega)
  have s2 := s2.out ot1 (by intro z hz hz2; (try simp only [List.mem_append, List.append_nil, List.nil_append, List.not_mem_nil, or_false, false_or] at hz2); first | exact (show ∀ z ∈ j2, z ∉ j1 from (by intro z hz hz2; have := nd.2.2; first | exact this z (by simp [hz]) z (by simp [hz2]) rfl | exact this z (by simp [hz2]) z (by simp [hz]) rfl)) z hz hz2 | grind)
  have s3 := s3.out ot1 (by intro z hz hz2; (try simp only [List.mem_append, List.append_nil, List.nil_append, List.not_mem_nil, or_false, false_or] at hz2); first | exact (show ∀ z ∈ j3, z ∉ j1 from (by intro z hz hz2; have := nd.2.2; first | exact this z (by simp [hz]) z (by simp [hz2]) rfl | exact this z (by simp [hz2]) z (by simp [hz]) rfl)) z hz hz2 | grind)
  have s4 := s4.out ot1 (by intro z hz hz2; (try simp only [List.mem_append, List.append_nil, List.nil_append, List.not_mem_nil, or_false, false_or] at hz2); first | exact (show ∀ z ∈ j4, z ∉ j1 from (by intro z hz hz2; have := nd.2.2; first | exact this z (by simp [hz]) z (by simp [hz2]) rfl | exact this z (by simp [hz2]) z (by simp [hz]) rfl)) z hz hz2 | grind)
  obtain ⟨_, t2, A2, rfl, wt2, ot2, s2⟩ := mkChangeS t1 wt1 x.2.2.2.2.2.1 _ _ s2 nd.2.1.1 (mrkL (Sh.mkd voteSh) x.2.2.2.2.1 k).2 (by omega) (by omega)
  have s1 := s1.out ot2 (by intro z hz hz2; (try simp only [List.mem_append, List.append_nil, List.nil_append, List.not_mem_nil, or_false, false_or] at hz2); first | exact (show ∀ z ∈ j1, z ∉ j2 from (by intro z hz hz2; have := nd.2.2; first | exact this z (by simp [hz]) z (by simp [hz2]) rfl | exact this z (by simp [hz2]) z (by simp [hz]) rfl)) z hz hz2 | grind)
  have s3 := s3.out ot2 (by intro z hz hz2; (try simp only [List.mem_append, List.append_nil, List.nil_append, List.not_mem_nil, or_false, false_or] at hz2); first | exact (show ∀ z ∈ j3, z ∉ j2 from (by intro z hz hz2; have := nd.2.1.2.2; first | exact this z (by simp [hz]) z (by simp [hz2]) rfl | exact this z (by simp [hz2]) z (by simp [hz]) rfl)) z hz hz2 | grind)
  have s4 := s4.out ot2 (by intro z hz hz2; (try simp only [List.mem_append, List.append_nil, List.nil_append, List.not_mem_nil, or_false, false_or] at hz2); first | exact (show ∀ z ∈ j4, z ∉ j2 from (by intro z hz hz2; have := nd.2.1.2.2; first | exact this z (by simp [hz]) z (by simp [hz2]) rfl | exact this z (by simp [hz2]) z (by simp [hz]) rfl)) z hz hz2 | grind)
  obtain ⟨_, t3, A3, rfl, wt3, ot3, s3⟩ := mkSay t2 wt2 x.2.2.2.2.2.2.1 _ j3 s3 (by (try simp only [List.nodup_append, List.mem_append]); first | exact nd | exact nd.1 | exact nd.2.1 | exact nd.2.1.1 | exact nd.2.1.2.1 | exact nd.2.1.2.1.1 | exact ⟨nd.1, nd.2.1.1, fun a ha b hb => nd.2.2 a ha b (.inl hb)⟩ | grind) (mrkL (Sh.mkd changeSh) x.2.2.2.2.2.1 (mrkL (Sh.mkd voteSh) x.2.2.2.2.1 k).2).2 (by omega) (by omega)
  have s1 := s1.out ot3 (by intro z hz hz2; (try simp only [List.mem_append, List.append_nil, List.nil_append, List.not_mem_nil, or_false, false_or] at hz2); first | exact (show ∀ z ∈ j1, z ∉ j3 from (by intro z hz hz2; have := nd.2.2; first | exact this z (by simp [hz]) z (by simp [hz2]) rfl | exact this z (by simp [hz2]) z (by simp [hz]) rfl)) z hz hz2 | grind)
  have s2 := s2.out ot3 (by intro z hz hz2; (try simp only [List.mem_append, List.append_nil, List.nil_append, List.not_mem_nil, or_false, false_or] at hz2); first | exact (show ∀ z ∈ j2, z ∉ j3 from (by intro z hz hz2; have := nd.2.1.2.2; first | exact this z (by simp [hz]) z (by simp [hz2]) rfl | exact this z (by simp [hz2]) z (by simp [hz]) rfl)) z hz hz2 | grind)
  have s4 := s4.out ot3 (by intro z hz hz2; (try simp only [List.mem_append, List.append_nil, List.nil_append, List.not_mem_nil, or_false, false_or] at hz2); first | exact (show ∀ z ∈ j4, z ∉ j3 from (by intro z hz hz2; have := nd.2.1.2.1.2.2; first | exact this z (by simp [hz]) z (by simp [hz2]) rfl | exact this z (by simp [hz2]) z (by simp [hz]) rfl)) z hz hz2 | grind)
  obtain ⟨_, t4, A4, rfl, wt4, ot4, s4⟩ := mkStringS t3 wt3 x.2.2.2.2.2.2.2 _ _ s4 nd.2.1.2.1.2.1 (saySh.mkv x.2.2.2.2.2.2.1 (mrkL (Sh.mkd changeSh) x.2.2.2.2.2.1 (mrkL (Sh.mkd voteSh) x.2.2.2.2.1 k).2).2).2 (by omega) (by omega)
  have s1 := s1.out ot4 (by intro z hz hz2; (try simp only [List.mem_append, List.append_nil, List.nil_append, List.not_mem_nil, or_false, false_or] at hz2); first | exact (show ∀ z ∈ j1, z ∉ j4 from (by intro z hz hz2; have := nd.2.2; first | exact this z (by simp [hz]) z (by simp [hz2]) rfl | exact this z (by simp [hz2]) z (by simp [hz]) rfl)) z hz hz2 | grind)
  have s2 := s2.out ot4 (by intro z hz hz2; (try simp only [List.mem_append, List.append_nil, List.nil_append, List.not_mem_nil, or_false, false_or] at hz2); first | exact (show ∀ z ∈ j2, z ∉ j4 from (by intro z hz hz2; have := nd.2.1.2.2; first | exact this z (by simp [hz]) z (by simp [hz2]) rfl | exact this z (by simp [hz2]) z (by simp [hz]) rfl)) z hz hz2 | grind)
  have s3 := s3.out ot4 (by intro z hz hz2; (try simp only [List.mem_append, List.append_nil, List.nil_append, List.not_mem_nil, or_false, false_or] at hz2); first | exact (show ∀ z ∈ j3, z ∉ j4 from (by intro z hz hz2; have := nd.2.1.2.1.2.2; first | exact this z (by simp [hz]) z (by simp [hz2]) rfl | exact this z (by simp [hz2]) z (by simp [hz]) rfl)) z hz hz2 | grind)
  refine acall_vc (fun _ => false) (fun _ => []) (fun _ => .none) mixed Tryz.func13 rfl rfl rfl (Nat.le_of_ble_eq_true rfl) (by (refine vc_mp (by kernel_rfl : (Qnu (Qmk True)) = _) ?_; delta Qmk Qnu); simp only [and_self]) ?_
  (refine vc_mp (by kernel_rfl : (∃ (x_1 : Int) (h' : AHeap), Qp4 44 (Qou a1 (Qpg x) c1) k h x_1 h' (∃ (x_2 : Int) (h'_1 : AHeap), Qp4 45 (Qoa a2 (Qpf x) c2) x_1 h' x_2 h'_1 (∃ (x_3 : Int) (h' : AHeap), Qp4 26 (Value.agg (Array.mk [Qpe x, Qpd x, Qpc x, Qpb x, Qpa x, Qp9 a3 x c3])) x_2 h'_1 x_3 h' (∃ (x_4 : Int) (h'_2 : AHeap), Qp4 46 (Qp8 a4 x c4) x_3 h' x_4 h'_2 (Q (Qmn x_4) h'_2))))) = _) ?_; delta Qmn Qni Qoa Qou Qp4 Qp5 Qp8 Qp9 Qpa Qpb Qpc Qpd Qpe Qpf Qpg)
  refine ⟨_, _, A1, ?_⟩
  refine ⟨_, _, A2, ?_⟩
  refine ⟨_, _, A3, ?_⟩
  refine ⟨_, _, A4, ?_⟩
  exact HQ _ _ ⟨rfl, wt4, ((ot1.widen (by intro z hz; (try simp only [List.mem_append, List.append_nil, List.nil_append, List.not_mem_nil, or_false, false_or] at hz ⊢); first | simp [hz] | grind)).trans ((ot2.widen (by intro z hz; (try simp only [List.mem_append, List.append_nil, List.nil_append, List.not_mem_nil, or_false, false_or] at hz ⊢); first | simp [hz] | grind)).trans ((ot3.widen (by intro z hz; (try simp only [List.mem_append, List.append_nil, List.nil_append, List.not_mem_nil, or_false, false_or] at hz ⊢); first | simp [hz] | grind)).trans (ot4.widen (by intro z hz; (try simp only [List.mem_append, List.append_nil, List.nil_append, List.not_mem_nil, or_false, false_or] at hz ⊢); first | simp [hz] | grind))))), s1, s2, s3, s4⟩
theorem hdReplica (h : AHeap) (hw : h.wf) (x : replicaSh.T) (v1 v2 v3 v4 : Value) (k : Int) (rd : replicaSh.rd h (replicaSh.mkv x k).1 [.int .i64 x.1, .int .i64 x.2.1, .bool x.2.2.1, .int .i64 x.2.2.2.1, v1, v2, .int .i64 x.2.2.2.2.2.2.1.1, .int .i64 x.2.2.2.2.2.2.1.2.1, .int .i64 x.2.2.2.2.2.2.1.2.2.1, .int .i64 x.2.2.2.2.2.2.1.2.2.2.1, .string x.2.2.2.2.2.2.1.2.2.2.2.1, v3, v4]) (hk : 0 ≤ k) (hb : (replicaSh.mkv x k).2 ≤ 1000000000000000) :
    ∃ w h', ACall Tryz.prog 60 [.agg #[.int .i64 x.1, .int .i64 x.2.1, .bool x.2.2.1, .int .i64 x.2.2.2.1, v1, v2, .int .i64 x.2.2.2.2.2.2.1.1, .int .i64 x.2.2.2.2.2.2.1.2.1, .int .i64 x.2.2.2.2.2.2.1.2.2.1, .int .i64 x.2.2.2.2.2.2.1.2.2.2.1, .string x.2.2.2.2.2.2.1.2.2.2.2.1, v3, v4], .int .i64 k] h w h' ∧ w = .int .i64 (replicaSh.mkv x k).2 ∧ h'.wf ∧ h.Le h' := by
  obtain ⟨y1, y2, y3, y4, ec, s1, s2, s3, s4⟩ := rd_replica.1 rd
  cases ec
  have bd : (mrkL (Sh.mkd Sh.str) x.2.2.2.2.2.2.2 (saySh.mkv x.2.2.2.2.2.2.1 (mrkL (Sh.mkd changeSh) x.2.2.2.2.2.1 (mrkL (Sh.mkd voteSh) x.2.2.2.2.1 k).2).2).2).2 ≤ 1000000000000000 := hb
  have q1 := Sh.mrkL_le voteSh x.2.2.2.2.1 k
  have s1 : Sl h voteSh (mrkL (Sh.mkd voteSh) x.2.2.2.2.1 k).1 v1 := s1
  have q2 := Sh.mrkL_le changeSh x.2.2.2.2.2.1 (mrkL (Sh.mkd voteSh) x.2.2.2.2.1 k).2
  have s2 : Sl h changeSh (mrkL (Sh.mkd changeSh) x.2.2.2.2.2.1 (mrkL (Sh.mkd voteSh) x.2.2.2.2.1 k).2).1 v2 := s2
  have q3 := Sh.mkv_le saySh x.2.2.2.2.2.2.1 (mrkL (Sh.mkd changeSh) x.2.2.2.2.2.1 (mrkL (Sh.mkd voteSh) x.2.2.2.2.1 k).2).2
  have q4 := Sh.mrkL_le Sh.str x.2.2.2.2.2.2.2 (saySh.mkv x.2.2.2.2.2.2.1 (mrkL (Sh.mkd changeSh) x.2.2.2.2.2.1 (mrkL (Sh.mkd voteSh) x.2.2.2.2.1 k).2).2).2
  have s4 : Sl h Sh.str (mrkL (Sh.mkd Sh.str) x.2.2.2.2.2.2.2 (saySh.mkv x.2.2.2.2.2.2.1 (mrkL (Sh.mkd changeSh) x.2.2.2.2.2.1 (mrkL (Sh.mkd voteSh) x.2.2.2.2.1 k).2).2).2).1 v4 := s4
  obtain ⟨a1, c1, rfl⟩ := s1.isSlice
  obtain ⟨a2, c2, rfl⟩ := s2.isSlice
  obtain ⟨a3, c3, rfl⟩ := s3.isSlice
  obtain ⟨a4, c4, rfl⟩ := s4.isSlice
  refine acall_q fun Q HQ => ?_
  obtain ⟨_, t1, A1, rfl, wt1, lt1⟩ := hdVoteS h hw x.2.2.2.2.1 _ k s1 (by omega) (by omega)
  have s1 := s1.mono lt1
  have s2 := s2.mono lt1
  have s3 := s3.mono lt1
  have s4 := s4.mono lt1
  obtain ⟨_, t2, A2, rfl, wt2, lt2⟩ := hdChangeS t1 wt1 x.2.2.2.2.2.1 _ (mrkL (Sh.mkd voteSh) x.2.2.2.2.1 k).2 s2 (by omega) (by omega)
  have s1 := s1.mono lt2
  have s2 := s2.mono lt2
  have s3 := s3.mono lt2
  have s4 := s4.mono lt2
  obtain ⟨_, t3, A3, rfl, wt3, lt3⟩ := hdSay t2 wt2 x.2.2.2.2.2.2.1 _ (mrkL (Sh.mkd changeSh) x.2.2.2.2.2.1 (mrkL (Sh.mkd voteSh) x.2.2.2.2.1 k).2).2 (rd_say.2 ⟨_, rfl, s3⟩) (by omega) (by omega)
  have s1 := s1.mono lt3
  have s2 := s2.mono lt3
  have s3 := s3.mono lt3
  have s4 := s4.mono lt3
  obtain ⟨_, t4, A4, rfl, wt4, lt4⟩ := hdStringS t3 wt3 x.2.2.2.2.2.2.2 _ (saySh.mkv x.2.2.2.2.2.2.1 (mrkL (Sh.mkd changeSh) x.2.2.2.2.2.1 (mrkL (Sh.mkd voteSh) x.2.2.2.2.1 k).2).2).2 s4 (by omega) (by omega)
  have s1 := s1.mono lt4
  have s2 := s2.mono lt4
  have s3 := s3.mono lt4
  have s4 := s4.mono lt4
  refine acall_vc (fun _ => false) (fun _ => []) (fun _ => .none) mixed Tryz.func60 rfl rfl rfl (Nat.le_of_ble_eq_true rfl) (by (refine vc_mp (by kernel_rfl : (Qp6 (Qo6 (Qmk Qmm ∧ True ∧ True))) = _) ?_; delta Qmk Qmm Qo6 Qp6); simp only [and_self]) ?_
  (refine vc_mp (by kernel_rfl : (∃ (x_1 : Int) (h' : AHeap), Qp4 114 (Qou a1 (Qov (Qpg x) k) c1) k h x_1 h' (bs (decide (x_1 < 0)) (Q Qp7 h') (∃ (x_2 : Int) (h'_1 : AHeap), Qp4 48 (Qoa a2 (Prod.fst (mrkL (Sh.mkd changeSh) (Qpf x) (Qox (Qpg x) k))) c2) x_1 h' x_2 h'_1 (bs (decide (x_2 < 0)) (Q Qp7 h'_1) (∃ (x_3 : Int) (h' : AHeap), Qp4 115 (Value.agg (Array.mk [Qpe x, Qpd x, Qpc x, Qpb x, Qpa x, Qp9 a3 (Prod.fst (Sh.mkv replicaSh x k)) c3])) x_2 h'_1 x_3 h' (bs (decide (x_3 < 0)) (Q Qp7 h') (∃ (x_4 : Int) (h'_2 : AHeap), Qp4 116 (Qni a4 (Prod.fst (mrkL (Sh.mkd Sh.str) (Prod.snd (Prod.snd (Prod.snd (Prod.snd (Prod.snd (Prod.snd (Prod.snd x))))))) (Prod.snd (Sh.mkv saySh (Prod.fst (Prod.snd (Prod.snd (Prod.snd (Prod.snd (Prod.snd (Prod.snd x))))))) (Prod.snd (mrkL (Sh.mkd changeSh) (Qpf x) (Qox (Qpg x) k))))))) c4) x_3 h' x_4 h'_2 (bs (decide (x_4 < 0)) (Q Qp7 h'_2) (Q (Qmn x_4) h'_2))))))))) = _) ?_; delta Qmn Qni Qoa Qou Qov Qox Qp4 Qp5 Qp7 Qp9 Qpa Qpb Qpc Qpd Qpe Qpf Qpg)
  refine ⟨_, _, A1, bs_d (fun e => absurd e (by omega)) (fun _ => ?_)⟩
  refine ⟨_, _, A2, bs_d (fun e => absurd e (by omega)) (fun _ => ?_)⟩
  refine ⟨_, _, A3, bs_d (fun e => absurd e (by omega)) (fun _ => ?_)⟩
  refine ⟨_, _, A4, bs_d (fun e => absurd e (by omega)) (fun _ => ?_)⟩
  exact HQ _ _ ⟨rfl, wt4, (lt1.trans (lt2.trans (lt3.trans lt4)))⟩
def Qph (a : (Sh.T Sh.int × Sh.T Sh.int × Sh.T Sh.bool × Int × Sh.T (Sh.pair (Sh.sl voteSh) (Sh.pair (Sh.sl changeSh) (Sh.pair saySh (Sh.sl Sh.str))))) × Sh.T (Sh.pair (Sh.sl saySh) Sh.int)) := Qmn (Prod.fst (Prod.snd (Prod.snd (Prod.snd (Prod.fst a)))))
theorem mkReplicaOut (h : AHeap) (hw : h.wf) (x : replicaOutSh.T) (v1 v2 v3 v4 v5 : Value) (j1 j2 j3 j4 j5 : List Nat) (s1 : So h voteSh x.1.2.2.2.2.1 v1 j1) (s2 : So h changeSh x.1.2.2.2.2.2.1 v2 j2) (s3 : So h changeSh x.1.2.2.2.2.2.2.1.2.2.2.2.2 v3 j3) (s4 : So h Sh.str x.1.2.2.2.2.2.2.2 v4 j4) (s5 : So h saySh x.2.1 v5 j5) (nd : (j1 ++ (j2 ++ (j3 ++ (j4 ++ j5)))).Nodup) (k : Int) (hk : 0 ≤ k) (hb : (replicaOutSh.mkv x k).2 ≤ 1000000000000000) :
    ∃ w h', ACall Tryz.prog 19 [.agg #[.int .i64 x.1.1, .int .i64 x.1.2.1, .bool x.1.2.2.1, .int .i64 x.1.2.2.2.1, v1, v2, .int .i64 x.1.2.2.2.2.2.2.1.1, .int .i64 x.1.2.2.2.2.2.2.1.2.1, .int .i64 x.1.2.2.2.2.2.2.1.2.2.1, .int .i64 x.1.2.2.2.2.2.2.1.2.2.2.1, .string x.1.2.2.2.2.2.2.1.2.2.2.2.1, v3, v4, v5, .int .i64 x.2.2], .int .i64 k] h w h' ∧ w = .int .i64 (replicaOutSh.mkv x k).2 ∧ h'.wf ∧ Out (j1 ++ (j2 ++ (j3 ++ (j4 ++ j5)))) h h' ∧ So h' voteSh (replicaOutSh.mkv x k).1.1.2.2.2.2.1 v1 j1 ∧ So h' changeSh (replicaOutSh.mkv x k).1.1.2.2.2.2.2.1 v2 j2 ∧ So h' changeSh (replicaOutSh.mkv x k).1.1.2.2.2.2.2.2.1.2.2.2.2.2 v3 j3 ∧ So h' Sh.str (replicaOutSh.mkv x k).1.1.2.2.2.2.2.2.2 v4 j4 ∧ So h' saySh (replicaOutSh.mkv x k).1.2.1 v5 j5 := by
  obtain ⟨a1, c1, rfl⟩ := s1.sl.isSlice
  obtain ⟨a2, c2, rfl⟩ := s2.sl.isSlice
  obtain ⟨a3, c3, rfl⟩ := s3.sl.isSlice
  obtain ⟨a4, c4, rfl⟩ := s4.sl.isSlice
  obtain ⟨a5, c5, rfl⟩ := s5.sl.isSlice
  simp only [List.nodup_append, List.mem_append] at nd
  have bd : (mrkL (Sh.mkd saySh) x.2.1 (replicaSh.mkv x.1 k).2).2 ≤ 1000000000000000 := hb
  have q1 := Sh.mkv_le replicaSh x.1 k
  have q2 := Sh.mrkL_le saySh x.2.1 (replicaSh.mkv x.1 k).2
  refine acall_q fun Q HQ => ?_
  obtain ⟨_, t1, A1, rfl, wt1, ot1, s1, s2, s3, s4⟩ := mkReplica h hw x.1 _ _ _ _ j1 j2 j3 j4 s1 s2 s3 s4 (by (try simp only [List.nodup_append, List.mem_append]); first | exact nd | exact nd.1 | exact nd.2.1 | exact nd.2.1.1 | exact nd.2.1.2.1 | exact nd.2.1.2.1.1 | exact ⟨nd.1, nd.2.1.1, fun a ha b hb => nd.2.2 a ha b (.inl hb)⟩ | grind) k (by omega) (by omega)
  have s5 := s5.out ot1 (by intro z hz hz2; (try simp only [List.mem_append, List.append_nil, List.nil_append, List.not_mem_nil, or_false, false_or] at hz2); first | exact (show ∀ z ∈ j5, z ∉ j1 from (by intro z hz hz2; have := nd.2.2; first | exact this z (by simp [hz]) z (by simp [hz2]) rfl | exact this z (by simp [hz2]) z (by simp [hz]) rfl)) z hz hz2 | exact (show ∀ z ∈ j5, z ∉ j2 from (by intro z hz hz2; have := nd.2.1.2.2; first | exact this z (by simp [hz]) z (by simp [hz2]) rfl | exact this z (by simp [hz2]) z (by simp [hz]) rfl)) z hz hz2 | exact (show ∀ z ∈ j5, z ∉ j3 from (by intro z hz hz2; have := nd.2.1.2.1.2.2; first | exact this z (by simp [hz]) z (by simp [hz2]) rfl | exact this z (by simp [hz2]) z (by simp [hz]) rfl)) z hz hz2 | exact (show ∀ z ∈ j5, z ∉ j4 from (by intro z hz hz2; have := nd.2.1.2.1.2.1.2.2; first | exact this z (by simp [hz]) z (by simp [hz2]) rfl | exact this z (by simp [hz2]) z (by simp [hz]) rfl)) z hz hz2 | grind)
  obtain ⟨_, t2, A2, rfl, wt2, ot2, s5⟩ := mkSayS t1 wt1 x.2.1 _ _ s5 nd.2.1.2.1.2.1.2.1 (replicaSh.mkv x.1 k).2 (by omega) (by omega)
  have s1 := s1.out ot2 (by intro z hz hz2; (try simp only [List.mem_append, List.append_nil, List.nil_append, List.not_mem_nil, or_false, false_or] at hz2); first | exact (show ∀ z ∈ j1, z ∉ j5 from (by intro z hz hz2; have := nd.2.2; first | exact this z (by simp [hz]) z (by simp [hz2]) rfl | exact this z (by simp [hz2]) z (by simp [hz]) rfl)) z hz hz2 | grind)
  have s2 := s2.out ot2 (by intro z hz hz2; (try simp only [List.mem_append, List.append_nil, List.nil_append, List.not_mem_nil, or_false, false_or] at hz2); first | exact (show ∀ z ∈ j2, z ∉ j5 from (by intro z hz hz2; have := nd.2.1.2.2; first | exact this z (by simp [hz]) z (by simp [hz2]) rfl | exact this z (by simp [hz2]) z (by simp [hz]) rfl)) z hz hz2 | grind)
  have s3 := s3.out ot2 (by intro z hz hz2; (try simp only [List.mem_append, List.append_nil, List.nil_append, List.not_mem_nil, or_false, false_or] at hz2); first | exact (show ∀ z ∈ j3, z ∉ j5 from (by intro z hz hz2; have := nd.2.1.2.1.2.2; first | exact this z (by simp [hz]) z (by simp [hz2]) rfl | exact this z (by simp [hz2]) z (by simp [hz]) rfl)) z hz hz2 | grind)
  have s4 := s4.out ot2 (by intro z hz hz2; (try simp only [List.mem_append, List.append_nil, List.nil_append, List.not_mem_nil, or_false, false_or] at hz2); first | exact (show ∀ z ∈ j4, z ∉ j5 from (by intro z hz hz2; have := nd.2.1.2.1.2.1.2.2; first | exact this z (by simp [hz]) z (by simp [hz2]) rfl | exact this z (by simp [hz2]) z (by simp [hz]) rfl)) z hz hz2 | grind)
  refine acall_vc (fun _ => false) (fun _ => []) (fun _ => .none) mixed Tryz.func19 rfl rfl rfl (Nat.le_of_ble_eq_true rfl) (by (refine vc_mp (by kernel_rfl : (Qnu True) = _) ?_; delta Qnu); simp only [and_self]) ?_
  (refine vc_mp (by kernel_rfl : (∃ (x_1 : Int) (h' : AHeap), Qp4 13 (Value.agg (Array.mk [Qmn (Prod.fst (Prod.fst x)), Qmn (Prod.fst (Prod.snd (Prod.fst x))), Value.bool (Prod.fst (Prod.snd (Prod.snd (Prod.fst x)))), Qph x, Qou a1 (Qpg (Prod.fst x)) c1, Qoa a2 (Qpf (Prod.fst x)) c2, Qpe (Prod.fst x), Qpd (Prod.fst x), Qpc (Prod.fst x), Qpb (Prod.fst x), Qpa (Prod.fst x), Qp9 a3 (Prod.fst x) c3, Qp8 a4 (Prod.fst x) c4])) k h x_1 h' (∃ (x_2 : Int) (h'_1 : AHeap), Qp4 14 (Qok a5 (Prod.fst (Prod.snd x)) c5) x_1 h' x_2 h'_1 (Q (Qmn x_2) h'_1))) = _) ?_; delta Qmn Qni Qoa Qok Qou Qp4 Qp5 Qp8 Qp9 Qpa Qpb Qpc Qpd Qpe Qpf Qpg Qph)
  refine ⟨_, _, A1, ?_⟩
  refine ⟨_, _, A2, ?_⟩
  exact HQ _ _ ⟨rfl, wt2, ((ot1.widen (by intro z hz; (try simp only [List.mem_append, List.append_nil, List.nil_append, List.not_mem_nil, or_false, false_or] at hz ⊢); first | simp [hz] | grind)).trans (ot2.widen (by intro z hz; (try simp only [List.mem_append, List.append_nil, List.nil_append, List.not_mem_nil, or_false, false_or] at hz ⊢); first | simp [hz] | grind))), s1, s2, s3, s4, s5⟩
def Qpi (a : Sh.T replicaOutSh) (b : Int) := Sh.mkv replicaOutSh a b
theorem hdReplicaOut (h : AHeap) (hw : h.wf) (x : replicaOutSh.T) (v1 v2 v3 v4 v5 : Value) (k : Int) (rd : replicaOutSh.rd h (replicaOutSh.mkv x k).1 [.int .i64 x.1.1, .int .i64 x.1.2.1, .bool x.1.2.2.1, .int .i64 x.1.2.2.2.1, v1, v2, .int .i64 x.1.2.2.2.2.2.2.1.1, .int .i64 x.1.2.2.2.2.2.2.1.2.1, .int .i64 x.1.2.2.2.2.2.2.1.2.2.1, .int .i64 x.1.2.2.2.2.2.2.1.2.2.2.1, .string x.1.2.2.2.2.2.2.1.2.2.2.2.1, v3, v4, v5, .int .i64 x.2.2]) (hk : 0 ≤ k) (hb : (replicaOutSh.mkv x k).2 ≤ 1000000000000000) :
    ∃ w h', ACall Tryz.prog 20 [.agg #[.int .i64 x.1.1, .int .i64 x.1.2.1, .bool x.1.2.2.1, .int .i64 x.1.2.2.2.1, v1, v2, .int .i64 x.1.2.2.2.2.2.2.1.1, .int .i64 x.1.2.2.2.2.2.2.1.2.1, .int .i64 x.1.2.2.2.2.2.2.1.2.2.1, .int .i64 x.1.2.2.2.2.2.2.1.2.2.2.1, .string x.1.2.2.2.2.2.2.1.2.2.2.2.1, v3, v4, v5, .int .i64 x.2.2], .int .i64 k] h w h' ∧ w = .int .i64 (replicaOutSh.mkv x k).2 ∧ h'.wf ∧ h.Le h' := by
  obtain ⟨y1, y2, y3, y4, y5, ec, s1, s2, s3, s4, s5⟩ := rd_replicaOut.1 rd
  cases ec
  have bd : (mrkL (Sh.mkd saySh) x.2.1 (replicaSh.mkv x.1 k).2).2 ≤ 1000000000000000 := hb
  have q1 := Sh.mkv_le replicaSh x.1 k
  have q2 := Sh.mrkL_le saySh x.2.1 (replicaSh.mkv x.1 k).2
  have s5 : Sl h saySh (mrkL (Sh.mkd saySh) x.2.1 (replicaSh.mkv x.1 k).2).1 v5 := s5
  obtain ⟨a1, c1, rfl⟩ := s1.isSlice
  obtain ⟨a2, c2, rfl⟩ := s2.isSlice
  obtain ⟨a3, c3, rfl⟩ := s3.isSlice
  obtain ⟨a4, c4, rfl⟩ := s4.isSlice
  obtain ⟨a5, c5, rfl⟩ := s5.isSlice
  refine acall_q fun Q HQ => ?_
  obtain ⟨_, t1, A1, rfl, wt1, lt1⟩ := hdReplica h hw x.1 _ _ _ _ k (rd_replica.2 ⟨_, _, _, _, rfl, s1, s2, s3, s4⟩) (by omega) (by omega)
  have s1 := s1.mono lt1
  have s2 := s2.mono lt1
  have s3 := s3.mono lt1
  have s4 := s4.mono lt1
  have s5 := s5.mono lt1
  obtain ⟨_, t2, A2, rfl, wt2, lt2⟩ := hdSayS t1 wt1 x.2.1 _ (replicaSh.mkv x.1 k).2 s5 (by omega) (by omega)
  have s1 := s1.mono lt2
  have s2 := s2.mono lt2
  have s3 := s3.mono lt2
  have s4 := s4.mono lt2
  have s5 := s5.mono lt2
  refine acall_vc (fun _ => false) (fun _ => []) (fun _ => .none) mixed Tryz.func20 rfl rfl rfl (Nat.le_of_ble_eq_true rfl) (by (refine vc_mp (by kernel_rfl : (Qp6 (Qmk Qmm ∧ True ∧ True)) = _) ?_; delta Qmk Qmm Qp6); simp only [and_self]) ?_
  (refine vc_mp (by kernel_rfl : (∃ (x_1 : Int) (h' : AHeap), Qp4 60 (Value.agg (Array.mk [Qmn (Prod.fst (Prod.fst x)), Qmn (Prod.fst (Prod.snd (Prod.fst x))), Value.bool (Prod.fst (Prod.snd (Prod.snd (Prod.fst x)))), Qph x, Qou a1 (Qpg (Prod.fst (Prod.fst (Qpi x k)))) c1, Qoa a2 (Qpf (Prod.fst (Prod.fst (Qpi x k)))) c2, Qpe (Prod.fst x), Qpd (Prod.fst x), Qpc (Prod.fst x), Qpb (Prod.fst x), Qpa (Prod.fst x), Qp9 a3 (Prod.fst (Prod.fst (Qpi x k))) c3, Qp8 a4 (Prod.fst (Prod.fst (Qpi x k))) c4])) k h x_1 h' (bs (decide (x_1 < 0)) (Q Qp7 h') (∃ (x_2 : Int) (h'_1 : AHeap), Qp4 15 (Qok a5 (Qol (Prod.fst (Prod.snd x)) (Prod.snd (Sh.mkv replicaSh (Prod.fst x) k))) c5) x_1 h' x_2 h'_1 (bs (decide (x_2 < 0)) (Q Qp7 h'_1) (Q (Qmn x_2) h'_1))))) = _) ?_; delta Qmn Qni Qoa Qok Qol Qou Qp4 Qp5 Qp7 Qp8 Qp9 Qpa Qpb Qpc Qpd Qpe Qpf Qpg Qph Qpi)
  refine ⟨_, _, A1, bs_d (fun e => absurd e (by omega)) (fun _ => ?_)⟩
  refine ⟨_, _, A2, bs_d (fun e => absurd e (by omega)) (fun _ => ?_)⟩
  exact HQ _ _ ⟨rfl, wt2, (lt1.trans lt2)⟩
end Go.Proofs.YtpgfjadjhliohaaGreat
