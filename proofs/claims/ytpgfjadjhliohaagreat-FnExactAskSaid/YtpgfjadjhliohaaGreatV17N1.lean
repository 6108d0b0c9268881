/- N1. -/
import Derived.Test.YtpgfjadjhliohaaGreatV17R2
namespace Go.Dat
open Go.Abs
theorem len_le_sum {α : Type} {c : α → Nat} (hc : ∀ x, 1 ≤ c x) {xs : List α} : xs.length ≤ (xs.map c).sum := by
  induction xs with
  | nil => simp
  | cons x xs ih => have := hc x; simp only [List.length_cons, List.map_cons, List.sum_cons]; omega
theorem rn_vote {h : AHeap} {x : voteSh.T} {cs : List Value} {ids : List Nat} : voteSh.rn h x cs ids ↔ cs = [.int .i64 x.1, .int .i64 x.2.1, .int .i64 x.2.2.1, .string x.2.2.2.1, .int .i64 x.2.2.2.2] ∧ ids = [] ++ ([] ++ ([] ++ ([] ++ ([])))) := by
  constructor
  · rintro ⟨_, _, _, _, rfl, rfl, ⟨rfl, rfl⟩, _, _, _, _, rfl, rfl, ⟨rfl, rfl⟩, _, _, _, _, rfl, rfl, ⟨rfl, rfl⟩, _, _, _, _, rfl, rfl, ⟨rfl, rfl⟩, rfl, rfl⟩
    exact ⟨rfl, rfl⟩
  · rintro ⟨rfl, rfl⟩
    exact ⟨[_], _, [], _, rfl, rfl, ⟨rfl, rfl⟩, [_], _, [], _, rfl, rfl, ⟨rfl, rfl⟩, [_], _, [], _, rfl, rfl, ⟨rfl, rfl⟩, [_], _, [], _, rfl, rfl, ⟨rfl, rfl⟩, rfl, rfl⟩
end Go.Dat
namespace Go.Proofs.YtpgfjadjhliohaaGreat
open Go.Abs Go.Dat
set_option maxRecDepth 100000
set_option maxHeartbeats 4000000
def Qid (a : Prop) := True ∧ a ∧ True
def Qie (a b : Prop) := True ∧ (True ∧ a ∧ Qid True ∧ b ∧ True) ∧ True ∧ True
def Qif := True ∧ True
def Qig (a : Int) := Value.int IntKind.i64 a
def Qih (a b : Int) (c d e : AHeap) (f : List Nat) (g h : AHeap) (i : Prop) := Qig a = Qig b ∧ c = d ∧ AHeap.wf e ∧ Out f g h ∧ i
def Qii (a : Option Addr) (b : List (Sh.T Sh.int)) (c : Nat) := Value.slice a (List.length b) c
def Qij (a : AHeap) (b : List (Sh.T Sh.int)) (c : Int) (d : Option Addr) (e : List (Sh.T Sh.int)) (f : Nat) (g : List Nat) := So a Sh.int (Prod.fst (mrkL (Sh.mkd Sh.int) b c)) (Qii d e f) g
def Qik (a : Nat × Int × AHeap × List (Sh.T Sh.int)) := Prod.fst (Prod.snd (Prod.snd a))
def Qil (a : List (Sh.T Sh.int)) (b : Int) := Prod.snd (mrkL (Sh.mkd Sh.int) a b)
def Qim (a : Nat × Int × AHeap × List (Sh.T Sh.int)) := Prod.fst (Prod.snd a)
def Qin (a : Prop) (b c : Int) (d : Nat) (e : Prop) := a ∧ 0 ≤ b ∧ c < (↑d : Int) ∧ e
def Qio (a : AHeap) (b c : Nat) (d : Int) (e : Nat) (f : List Value) (g : AHeap) (h : Prop) := AHeap.wr a b (c + Int.toNat d) e f = some g ∧ h
def Qip (a : Int) := IntKind.wrap IntKind.i64 (a + 1)
def Qiq (a b : Value) (c d e f : Int) (g h : AHeap) (i : Prop) (j k l m : Nat) (n o : Prop) := a = b ∧ Qig c = Qig d ∧ Qig (Qip e) = Qig f ∧ g = h ∧ i ∧ j - k < l - m ∧ n ∧ o
def Qir := False → False
def Qis (a : AHeap) (b : List Nat) (c d : AHeap) (e : Prop) := AHeap.wf a ∧ Out b c d ∧ e
def Qit (a : AHeap) (b : List (Sh.T Sh.int)) (c : Int) (d : Option Addr) (e : List (Sh.T Sh.int)) (f : Nat) (g : List Nat) (h i j k : Nat × Int × AHeap × List (Sh.T Sh.int)) := MkI Sh.int a b c (Qii d e f) g (Prod.fst h) (Qim i) (Qik j) (Prod.snd (Prod.snd (Prod.snd k)))
def Qiu (a : Nat × Int × AHeap × List (Sh.T Sh.int)) := (↑(Prod.fst a) : Int)
def Qiv (a : Option Addr) (b c d : Nat) := a = some (Addr.mk b c (some d))
def Qiw (a b : Value) (c d e : Int) (f g : AHeap) (h i j : Prop) := a = b ∧ Qig c = Qig d ∧ Qig 0 = Qig e ∧ f = g ∧ h ∧ i ∧ j
theorem mkInt64S (h : AHeap) (hw : h.wf) (xs : List (Sh.T Sh.int)) (v : Value) (ids : List Nat) (so : So h Sh.int xs v ids) (nd : ids.Nodup) (k : Int) (hk : 0 ≤ k) (hb : (mrkL (Sh.mkd Sh.int) xs k).2 ≤ 1000000000000000) :
    ∃ w h', ACall Tryz.prog 141 [v, .int .i64 k] h w h' ∧ w = .int .i64 (mrkL (Sh.mkd Sh.int) xs k).2 ∧ h'.wf ∧ Out ids h h' ∧ So h' Sh.int (mrkL (Sh.mkd Sh.int) xs k).1 v ids := by
  have hn : (xs.length : Int) ≤ 1000000000000000 := by have := mrkL_cn (Sh.mkd_cn Sh.int) xs k; have := len_le_sum (c := Sh.cn Sh.int) (xs := xs) (fun x => by simp only [Sh.cn]; omega); omega
  obtain ⟨a, c, rfl⟩ := so.sl.isSlice
  refine acall_q fun Q HQ => ?_
  refine acall_vc (fun _ => false) (fun _ => []) (fun _ => mkLp Sh.int h xs k (.slice a xs.length c) ids) mixed Tryz.func141 rfl rfl rfl (Nat.le_of_ble_eq_true rfl) ?_ ?_
  · (refine vc_mp (by kernel_rfl : (Qie (∀ (i : Nat × Int × AHeap × List (Sh.T Sh.int)), Qit h xs k a xs c ids i i i i → bs (decide (Qiu i < (↑(List.length xs) : Int))) (∃ (l r : Nat), Qin (Qiv a l r 1) (Qiu i) (Qiu i) (List.length xs) (∃ (h' : AHeap), Qio (Qik i) l r (Qiu i) 0 [Qig (Qim i)] h' (∃ (j : Nat × Int × AHeap × List (Sh.T Sh.int)), Qiq (Qii a xs c) (Qii a xs c) (Qip (Qim i)) (Qim j) (Qiu i) (Qiu j) (Qik j) h' (Qit h xs k a xs c ids j j j j) (List.length xs) (Prod.fst j) (List.length xs) (Prod.fst i) (∀ (k_1 : AHeap), Qis k_1 ids h k_1 (Qij k_1 xs k a xs c ids) → Qis k_1 ids h k_1 (Qij k_1 xs k a xs c ids)) (∀ (v : Value) (h : AHeap), Qir)))) (∃ (j : AHeap), Qih (Qim i) (Qil xs k) j (Qik i) j ids h j (Qij j xs k a xs c ids))) Qif) = _) ?_; delta Qid Qie Qif Qig Qih Qii Qij Qik Qil Qim Qin Qio Qip Qiq Qir Qis Qit Qiu Qiv)
    simp only [true_and, and_true]
    rintro ⟨i, ki, g, ys⟩ I
    dsimp only at *
    have hi := I.hi
    have k0 := I.k0
    refine bs_d (fun hlt => ?_) (fun hge => ?_)
    · obtain ⟨x, hx⟩ : ∃ y : Sh.T Sh.int, xs[i]? = some y := ⟨_, List.getElem?_eq_getElem (by omega)⟩
      have bd : ki + 1 ≤ 1000000000000000 := I.bound hx hb
      obtain ⟨l, r, n', c', rows, cs, js, e, hin, E0, ro, hlj, ndj, hsub, fin⟩ := I.so.elem nd I.wf (I.at hx)
      cases e
      obtain ⟨rfl, rfl⟩ := ro
      obtain ⟨g1, w1, E1, o1⟩ := E0.wr 0 [.int .i64 (ki)] [.int .i64 (ki)] (Nat.le_of_ble_eq_true rfl) rfl
      refine ⟨l, r, rfl, Int.natCast_nonneg _, hlt, g1, w1, ?_⟩
      try rw [wrap_i64 (n := ki + 1) (by omega)]
      have so2 := fin _ _ (Sh.mkd Sh.int x ki).1 E1 (⟨rfl, rfl⟩)
      exact ⟨(i + 1, (Sh.mkd Sh.int x ki).2, _, ys.set i (Sh.mkd Sh.int x ki).1), rfl, by rw [wrap_i64 (by omega)] <;> rfl, rfl, I.step hx E1.wf (E1.out.widen hsub) so2, by dsimp only; omega, fun _ h => h, fun _ _ h => h⟩
    · obtain ⟨e1, e2⟩ := I.finish (by omega)
      exact ⟨g, by rw [e1], rfl, I.wf, I.out, e2⟩
  · (refine vc_mp (by kernel_rfl : (∃ (i : Nat × Int × AHeap × List (Sh.T Sh.int)), Qiw (Qii a xs c) (Qii a xs c) k (Qim i) (Qiu i) (Qik i) h (Qit h xs k a xs c ids i i i i) (∀ (j : AHeap), Qis j ids h j (Qij j xs k a xs c ids) → Q (Qig (Qil xs k)) j) (∀ (v : Value) (h : AHeap), False → Q v h)) = _) ?_; delta Qig Qii Qij Qik Qil Qim Qis Qit Qiu Qiw)
    exact ⟨(0, k, h, xs), rfl, rfl, rfl, rfl, .start hw hk so, fun j hj => HQ _ _ ⟨rfl, hj⟩, fun _ _ h => h.elim⟩
def Qix (a : Nat × Int × AHeap) := Prod.snd (Prod.snd a)
def Qiy (a : Nat × Int × AHeap) := Prod.fst (Prod.snd a)
def Qiz (a : Nat × Int × AHeap) (b : Int) (c : AHeap) (d : Nat × Int × AHeap) (e f g : AHeap) := Qig (Qiy a) = Qig b ∧ c = Qix d ∧ AHeap.wf e ∧ AHeap.Le f g
def Qj0 (a : AHeap) (b c : Nat) (d : Int) (e : Nat) := AHeap.ld a b (c + Int.toNat d) e 1
def Qj1 (a : Nat × Int × AHeap) := (↑(Prod.fst a) : Int)
def Qj2 (a : Nat × Int × AHeap) (b c : Nat) (d : Nat × Int × AHeap) (e : Nat) (f : List Value) (g : Prop) := Qj0 (Qix a) b c (Qj1 d) e = some f ∧ g
def Qj3 (a : Nat × Int × AHeap) (b c : Nat) (d : Nat × Int × AHeap) (e : Int) (f : Bool) (g : Prop) := Qj2 a b c d 0 [Qig e] (bs (not f) False g)
def Qj4 (a b : Value) (c : Int) (d e f g : Nat × Int × AHeap) (h : AHeap) (i : Prop) (j : Nat) (k : Nat × Int × AHeap) (l : Nat) (m : Nat × Int × AHeap) (n o : Prop) := a = b ∧ Qig c = Qig (Qiy d) ∧ Qig (Qip (Qj1 e)) = Qig (Qj1 f) ∧ Qix g = h ∧ i ∧ j - Prod.fst k < l - Prod.fst m ∧ n ∧ o
def Qj5 (a b c : AHeap) := AHeap.wf a ∧ AHeap.Le b c
def Qj6 (a : Nat × Int × AHeap) := Qip (Qiy a)
theorem hdInt64S (h : AHeap) (hw : h.wf) (xs : List (Sh.T Sh.int)) (v : Value) (k : Int) (hx : Sl h Sh.int (mrkL (Sh.mkd Sh.int) xs k).1 v) (hk : 0 ≤ k) (hb : (mrkL (Sh.mkd Sh.int) xs k).2 ≤ 1000000000000000) :
    ∃ w h', ACall Tryz.prog 142 [v, .int .i64 k] h w h' ∧ w = .int .i64 (mrkL (Sh.mkd Sh.int) xs k).2 ∧ h'.wf ∧ h.Le h' := by
  have hn : (xs.length : Int) ≤ 1000000000000000 := by have := mrkL_cn (Sh.mkd_cn Sh.int) xs k; have := len_le_sum (c := Sh.cn Sh.int) (xs := xs) (fun x => by simp only [Sh.cn]; omega); omega
  obtain ⟨a, c, rfl⟩ := hx.isSlice
  rw [mrkL_len] at hx ⊢
  refine acall_q fun Q HQ => ?_
  refine acall_vc (fun _ => false) (fun _ => []) (fun _ => hdLp Sh.int h xs k (.slice a xs.length c)) mixed Tryz.func142 rfl rfl rfl (Nat.le_of_ble_eq_true rfl) ?_ ?_
  · (refine vc_mp (by kernel_rfl : (Qie (∀ (i : Nat × Int × AHeap), HdI Sh.int h xs k (Prod.fst i) (Qiy i) (Qix i) → bs (decide (Qj1 i < (↑(List.length xs) : Int))) (∃ (l r : Nat), Qin (Qiv a l r 1) (Qj1 i) (Qj1 i) (List.length xs) (∃ (x : Int), Qj3 i l r i x (decide (x = Qiy i)) (∃ (j : Nat × Int × AHeap), Qj4 (Qii a xs c) (Qii a xs c) (Qj6 i) j i j j (Qix i) (HdI Sh.int h xs k (Prod.fst j) (Qiy j) (Qix j)) (List.length xs) j (List.length xs) i (∀ (k : AHeap), Qj5 k h k → Qj5 k h k) (∀ (v : Value) (h : AHeap), Qir)))) (∃ (j : AHeap), Qiz i (Qil xs k) j i j h j)) (Qid Qif ∧ True)) = _) ?_; delta Qid Qie Qif Qig Qii Qil Qin Qip Qir Qiv Qix Qiy Qiz Qj0 Qj1 Qj2 Qj3 Qj4 Qj5 Qj6)
    simp only [true_and, and_true]
    rintro ⟨i, ki, g⟩ I
    dsimp only at *
    have hi := I.hi
    have k0 := I.k0
    refine bs_d (fun hlt => ?_) (fun hge => ?_)
    · obtain ⟨x, hat⟩ : ∃ y : Sh.T Sh.int, xs[i]? = some y := ⟨_, List.getElem?_eq_getElem (by omega)⟩
      have bd : ki + 1 ≤ 1000000000000000 := I.bound hat hb
      obtain ⟨l, r, row, ha, _, hrd, hld⟩ := (hx.mono I.le).elem (I.at hat)
      obtain rfl : row = [.int .i64 ki] := hrd
      refine ⟨l, r, ha, Int.natCast_nonneg _, hlt, _, hld, bs_dn (fun e => absurd rfl e) (fun _ => ?_)⟩
      try rw [wrap_i64 (n := ki + 1) (by omega)]
      exact ⟨(i + 1, (Sh.mkd Sh.int x ki).2, _), rfl, by rw [wrap_i64 (by omega)] <;> rfl, rfl, I.step hat I.wf (.refl _), by dsimp only; omega, fun _ h => h, fun _ _ h => h⟩
    · exact ⟨g, by rw [I.finish (by omega)], rfl, I.wf, I.le⟩
  · (refine vc_mp (by kernel_rfl : (∃ (i : Nat × Int × AHeap), Qiw (Qii a xs c) (Qii a xs c) k (Qiy i) (Qj1 i) (Qix i) h (HdI Sh.int h xs k (Prod.fst i) (Qiy i) (Qix i)) (∀ (j : AHeap), Qj5 j h j → Q (Qig (Qil xs k)) j) (∀ (v : Value) (h : AHeap), False → Q v h)) = _) ?_; delta Qig Qii Qil Qiw Qix Qiy Qj1 Qj5)
    exact ⟨(0, k, h), rfl, rfl, rfl, rfl, .start hw hk, fun j hj => HQ _ _ ⟨rfl, hj⟩, fun _ _ h => h.elim⟩
def Qj7 (a : Option Addr) (b : List (Sh.T Sh.str)) (c : Nat) := Value.slice a (List.length b) c
def Qj8 (a : AHeap) (b : List (Sh.T Sh.str)) (c : Int) (d : Option Addr) (e : List (Sh.T Sh.str)) (f : Nat) (g : List Nat) := So a Sh.str (Prod.fst (mrkL (Sh.mkd Sh.str) b c)) (Qj7 d e f) g
def Qj9 (a : Nat × Int × AHeap × List (Sh.T Sh.str)) := Prod.fst (Prod.snd (Prod.snd a))
def Qja (a : List (Sh.T Sh.str)) (b : Int) := Prod.snd (mrkL (Sh.mkd Sh.str) a b)
def Qjb (a : Nat × Int × AHeap × List (Sh.T Sh.str)) := Prod.fst (Prod.snd a)
def Qjc (a : AHeap) (b : List (Sh.T Sh.str)) (c : Int) (d : Option Addr) (e : List (Sh.T Sh.str)) (f : Nat) (g : List Nat) (h i j k : Nat × Int × AHeap × List (Sh.T Sh.str)) := MkI Sh.str a b c (Qj7 d e f) g (Prod.fst h) (Qjb i) (Qj9 j) (Prod.snd (Prod.snd (Prod.snd k)))
def Qjd (a : Nat × Int × AHeap × List (Sh.T Sh.str)) := (↑(Prod.fst a) : Int)
def Qje (a : ByteArray) := [Value.string a]
def Qjf (a : List Value) (b : AHeap) (c : ByteArray) (d : AHeap) := ACall Tryz.prog 47 a b (Value.string c) d
theorem mkStringS (h : AHeap) (hw : h.wf) (xs : List (Sh.T Sh.str)) (v : Value) (ids : List Nat) (so : So h Sh.str xs v ids) (nd : ids.Nodup) (k : Int) (hk : 0 ≤ k) (hb : (mrkL (Sh.mkd Sh.str) xs k).2 ≤ 1000000000000000) :
    ∃ w h', ACall Tryz.prog 46 [v, .int .i64 k] h w h' ∧ w = .int .i64 (mrkL (Sh.mkd Sh.str) xs k).2 ∧ h'.wf ∧ Out ids h h' ∧ So h' Sh.str (mrkL (Sh.mkd Sh.str) xs k).1 v ids := by
  have hn : (xs.length : Int) ≤ 1000000000000000 := by have := mrkL_cn (Sh.mkd_cn Sh.str) xs k; have := len_le_sum (c := Sh.cn Sh.str) (xs := xs) (fun x => by simp only [Sh.cn]; omega); omega
  obtain ⟨a, c, rfl⟩ := so.sl.isSlice
  refine acall_q fun Q HQ => ?_
  refine acall_vc (fun _ => false) (fun _ => []) (fun _ => mkLp Sh.str h xs k (.slice a xs.length c) ids) mixed Tryz.func46 rfl rfl rfl (Nat.le_of_ble_eq_true rfl) ?_ ?_
  · (refine vc_mp (by kernel_rfl : (Qie (∀ (i : Nat × Int × AHeap × List (Sh.T Sh.str)), Qjc h xs k a xs c ids i i i i → bs (decide (Qjd i < (↑(List.length xs) : Int))) (∃ (x : ByteArray) (h' : AHeap), Qjf [Qig (Qjb i)] (Qj9 i) x h' ∧ (∃ (l r : Nat), Qin (Qiv a l r 1) (Qjd i) (Qjd i) (List.length xs) (∃ (h'_1 : AHeap), Qio h' l r (Qjd i) 0 (Qje x) h'_1 (∃ (j : Nat × Int × AHeap × List (Sh.T Sh.str)), Qiq (Qj7 a xs c) (Qj7 a xs c) (Qip (Qjb i)) (Qjb j) (Qjd i) (Qjd j) (Qj9 j) h'_1 (Qjc h xs k a xs c ids j j j j) (List.length xs) (Prod.fst j) (List.length xs) (Prod.fst i) (∀ (k_1 : AHeap), Qis k_1 ids h k_1 (Qj8 k_1 xs k a xs c ids) → Qis k_1 ids h k_1 (Qj8 k_1 xs k a xs c ids)) (∀ (v : Value) (h : AHeap), Qir))))) (∃ (j : AHeap), Qih (Qjb i) (Qja xs k) j (Qj9 i) j ids h j (Qj8 j xs k a xs c ids))) Qif) = _) ?_; delta Qid Qie Qif Qig Qih Qin Qio Qip Qiq Qir Qis Qiv Qj7 Qj8 Qj9 Qja Qjb Qjc Qjd Qje Qjf)
    simp only [true_and, and_true]
    rintro ⟨i, ki, g, ys⟩ I
    dsimp only at *
    have hi := I.hi
    have k0 := I.k0
    refine bs_d (fun hlt => ?_) (fun hge => ?_)
    · obtain ⟨x, hx⟩ : ∃ y : Sh.T Sh.str, xs[i]? = some y := ⟨_, List.getElem?_eq_getElem (by omega)⟩
      have bd : ki + 1 ≤ 1000000000000000 := I.bound hx hb
      obtain ⟨l, r, n', c', rows, cs, js, e, hin, E0, ro, hlj, ndj, hsub, fin⟩ := I.so.elem nd I.wf (I.at hx)
      cases e
      obtain ⟨rfl, rfl⟩ := ro
      obtain ⟨_, t1, A1, lt1, wt1, rfl⟩ := mt_spec (ki) _ E0.wf (by omega)
      have E0 := E0.le lt1 wt1
      obtain ⟨g1, w1, E1, o1⟩ := E0.wr 0 [.string (mtext (ki))] [.string (mtext (ki))] (Nat.le_of_ble_eq_true rfl) rfl
      refine ⟨_, _, A1, l, r, rfl, Int.natCast_nonneg _, hlt, g1, w1, ?_⟩
      try rw [wrap_i64 (n := ki + 1) (by omega)]
      have so2 := fin _ _ (Sh.mkd Sh.str x ki).1 E1 (⟨rfl, rfl⟩)
      exact ⟨(i + 1, (Sh.mkd Sh.str x ki).2, _, ys.set i (Sh.mkd Sh.str x ki).1), rfl, by rw [wrap_i64 (by omega)] <;> rfl, rfl, I.step hx E1.wf (E1.out.widen hsub) so2, by dsimp only; omega, fun _ h => h, fun _ _ h => h⟩
    · obtain ⟨e1, e2⟩ := I.finish (by omega)
      exact ⟨g, by rw [e1], rfl, I.wf, I.out, e2⟩
  · (refine vc_mp (by kernel_rfl : (∃ (i : Nat × Int × AHeap × List (Sh.T Sh.str)), Qiw (Qj7 a xs c) (Qj7 a xs c) k (Qjb i) (Qjd i) (Qj9 i) h (Qjc h xs k a xs c ids i i i i) (∀ (j : AHeap), Qis j ids h j (Qj8 j xs k a xs c ids) → Q (Qig (Qja xs k)) j) (∀ (v : Value) (h : AHeap), False → Q v h)) = _) ?_; delta Qig Qis Qiw Qj7 Qj8 Qj9 Qja Qjb Qjc Qjd)
    exact ⟨(0, k, h, xs), rfl, rfl, rfl, rfl, .start hw hk so, fun j hj => HQ _ _ ⟨rfl, hj⟩, fun _ _ h => h.elim⟩
def Qjg (a : List Value) (b : Nat × Int × AHeap) (c : ByteArray) (d : AHeap) (e : Prop) (f : Bool) (g : Prop) := Qjf a (Qix b) c d ∧ e ∧ bs (not f) False g
def Qjh (a : AHeap) (b c : Nat) (d : Nat × Int × AHeap) (e : Nat) (f : List Value) (g : Prop) := Qj0 a b c (Qj1 d) e = some f ∧ g
theorem hdStringS (h : AHeap) (hw : h.wf) (xs : List (Sh.T Sh.str)) (v : Value) (k : Int) (hx : Sl h Sh.str (mrkL (Sh.mkd Sh.str) xs k).1 v) (hk : 0 ≤ k) (hb : (mrkL (Sh.mkd Sh.str) xs k).2 ≤ 1000000000000000) :
    ∃ w h', ACall Tryz.prog 116 [v, .int .i64 k] h w h' ∧ w = .int .i64 (mrkL (Sh.mkd Sh.str) xs k).2 ∧ h'.wf ∧ h.Le h' := by
  have hn : (xs.length : Int) ≤ 1000000000000000 := by have := mrkL_cn (Sh.mkd_cn Sh.str) xs k; have := len_le_sum (c := Sh.cn Sh.str) (xs := xs) (fun x => by simp only [Sh.cn]; omega); omega
  obtain ⟨a, c, rfl⟩ := hx.isSlice
  rw [mrkL_len] at hx ⊢
  refine acall_q fun Q HQ => ?_
  refine acall_vc (fun _ => false) (fun r => match r with | 4 => [(0, 0, []), (1, 0, []), (2, 0, []), (4, 0, []), (3, 1, []), (5, 3, [3]), (6, 0, [])] | _ => []) (fun _ => hdLp Sh.str h xs k (.slice a xs.length c)) mixed Tryz.func116 rfl rfl rfl (Nat.le_of_ble_eq_true rfl) ?_ ?_
  · (refine vc_mp (by kernel_rfl : (Qie (∀ (i : Nat × Int × AHeap), HdI Sh.str h xs k (Prod.fst i) (Qiy i) (Qix i) → bs (decide (Qj1 i < (↑(List.length xs) : Int))) (∃ (l r : Nat), Qin (Qiv a l r 1) (Qj1 i) (Qj1 i) (List.length xs) (∃ (x : ByteArray), Qj2 i l r i 0 (Qje x) (∃ (x_1 : ByteArray) (h' : AHeap), Qjg [Qig (Qiy i)] i x_1 h' (∃ (x_2 : ByteArray), Qjh h' l r i 0 (Qje x_2) (Value.string x_2 = Value.string x)) (decide (x = x_1)) (∃ (j : Nat × Int × AHeap), Qj4 (Qj7 a xs c) (Qj7 a xs c) (Qj6 i) j i j j h' (HdI Sh.str h xs k (Prod.fst j) (Qiy j) (Qix j)) (List.length xs) j (List.length xs) i (∀ (k : AHeap), Qj5 k h k → Qj5 k h k) (∀ (v : Value) (h : AHeap), Qir))))) (∃ (j : AHeap), Qiz i (Qja xs k) j i j h j)) (Qid Qif ∧ True)) = _) ?_; delta Qid Qie Qif Qig Qin Qip Qir Qiv Qix Qiy Qiz Qj0 Qj1 Qj2 Qj4 Qj5 Qj6 Qj7 Qja Qje Qjf Qjg Qjh)
    simp only [true_and, and_true]
    rintro ⟨i, ki, g⟩ I
    dsimp only at *
    have hi := I.hi
    have k0 := I.k0
    refine bs_d (fun hlt => ?_) (fun hge => ?_)
    · obtain ⟨x, hat⟩ : ∃ y : Sh.T Sh.str, xs[i]? = some y := ⟨_, List.getElem?_eq_getElem (by omega)⟩
      have bd : ki + 1 ≤ 1000000000000000 := I.bound hat hb
      obtain ⟨l, r, row, ha, _, hrd, hld⟩ := (hx.mono I.le).elem (I.at hat)
      obtain rfl : row = [.string (mtext ki)] := hrd
      obtain ⟨_, t1, A1, lt1, wt1, rfl⟩ := mt_spec (ki) _ I.wf (by omega)
      refine ⟨l, r, ha, Int.natCast_nonneg _, hlt, _, hld, _, _, A1, ⟨_, lt1.ld (hld), rfl⟩, bs_dn (fun e => absurd rfl e) (fun _ => ?_)⟩
      have hld := lt1.ld hld
      try rw [wrap_i64 (n := ki + 1) (by omega)]
      exact ⟨(i + 1, (Sh.mkd Sh.str x ki).2, _), rfl, by rw [wrap_i64 (by omega)] <;> rfl, rfl, I.step hat wt1 lt1, by dsimp only; omega, fun _ h => h, fun _ _ h => h⟩
    · exact ⟨g, by rw [I.finish (by omega)], rfl, I.wf, I.le⟩
  · (refine vc_mp (by kernel_rfl : (∃ (i : Nat × Int × AHeap), Qiw (Qj7 a xs c) (Qj7 a xs c) k (Qiy i) (Qj1 i) (Qix i) h (HdI Sh.str h xs k (Prod.fst i) (Qiy i) (Qix i)) (∀ (j : AHeap), Qj5 j h j → Q (Qig (Qja xs k)) j) (∀ (v : Value) (h : AHeap), False → Q v h)) = _) ?_; delta Qig Qiw Qix Qiy Qj1 Qj5 Qj7 Qja)
    exact ⟨(0, k, h), rfl, rfl, rfl, rfl, .start hw hk, fun j hj => HQ _ _ ⟨rfl, hj⟩, fun _ _ h => h.elim⟩
def Qji (a : Prop) := True ∧ True ∧ True ∧ True ∧ a
def Qjj (a : Option Addr) (b : List (Sh.T proofSh)) (c : Nat) := Value.slice a (List.length b) c
def Qjk (a : AHeap) (b : List (Sh.T proofSh)) (c : Int) (d : Option Addr) (e : List (Sh.T proofSh)) (f : Nat) (g : List Nat) := So a proofSh (Prod.fst (mrkL (Sh.mkd proofSh) b c)) (Qjj d e f) g
def Qjl (a : Nat × Int × AHeap × List (Sh.T proofSh)) := Prod.fst (Prod.snd (Prod.snd a))
def Qjm (a : List (Sh.T proofSh)) (b : Int) := Prod.snd (mrkL (Sh.mkd proofSh) a b)
def Qjn (a : Nat × Int × AHeap × List (Sh.T proofSh)) := Prod.fst (Prod.snd a)
def Qjo (a : Nat × Int × AHeap × List (Sh.T proofSh)) := (↑(Prod.fst a) : Int)
def Qjp (a : Option Addr) (b c : Nat) (d e : Nat × Int × AHeap × List (Sh.T proofSh)) (f : List (Sh.T proofSh)) (g : Prop) := Qin (Qiv a b c 4) (Qjo d) (Qjo e) (List.length f) g
def Qjq (a : Int) := Qip (Qip a)
def Qjr (a : FuncId) (b : Option Addr) (c d : Nat) (e : Int) (f : AHeap) (g : Int) (h : AHeap) (i : Prop) := ACall Tryz.prog a [Value.slice b c d, Qig (Qjq e)] f (Qig g) h ∧ i
def Qjs (a : AHeap) (b : List (Sh.T proofSh)) (c : Int) (d : Option Addr) (e : List (Sh.T proofSh)) (f : Nat) (g : List Nat) (h i j k : Nat × Int × AHeap × List (Sh.T proofSh)) := MkI proofSh a b c (Qjj d e f) g (Prod.fst h) (Qjn i) (Qjl j) (Prod.snd (Prod.snd (Prod.snd k)))
def Qjt (a : Int) := [Qig (Qjq a)]
theorem mkProofS (h : AHeap) (hw : h.wf) (xs : List (Sh.T proofSh)) (v : Value) (ids : List Nat) (so : So h proofSh xs v ids) (nd : ids.Nodup) (k : Int) (hk : 0 ≤ k) (hb : (mrkL (Sh.mkd proofSh) xs k).2 ≤ 1000000000000000) :
    ∃ w h', ACall Tryz.prog 102 [v, .int .i64 k] h w h' ∧ w = .int .i64 (mrkL (Sh.mkd proofSh) xs k).2 ∧ h'.wf ∧ Out ids h h' ∧ So h' proofSh (mrkL (Sh.mkd proofSh) xs k).1 v ids := by
  have hn : (xs.length : Int) ≤ 1000000000000000 := by have := mrkL_cn (Sh.mkd_cn proofSh) xs k; have := len_le_sum (c := Sh.cn proofSh) (xs := xs) (fun x => by simp only [Sh.cn]; omega); omega
  obtain ⟨a, c, rfl⟩ := so.sl.isSlice
  refine acall_q fun Q HQ => ?_
  refine acall_vc (fun _ => false) (fun _ => []) (fun _ => mkLp proofSh h xs k (.slice a xs.length c) ids) mixed Tryz.func102 rfl rfl rfl (Nat.le_of_ble_eq_true rfl) ?_ ?_
  · (refine vc_mp (by kernel_rfl : (Qie (∀ (i : Nat × Int × AHeap × List (Sh.T proofSh)), Qjs h xs k a xs c ids i i i i → bs (decide (Qjo i < (↑(List.length xs) : Int))) (∃ (l r : Nat), Qjp a l r i i xs (∃ (h' : AHeap), Qio (Qjl i) l r (Qjo i) 0 [Qig (Qjn i)] h' (∃ (l r : Nat), Qjp a l r i i xs (∃ (h'_1 : AHeap), Qio h' l r (Qjo i) 1 [Qig (Qip (Qjn i))] h'_1 (∃ (x : ByteArray) (h' : AHeap), Qjf (Qjt (Qjn i)) h'_1 x h' ∧ (∃ (l r : Nat), Qjp a l r i i xs (∃ (h'_2 : AHeap), Qio h' l r (Qjo i) 2 (Qje x) h'_2 (∃ (l r : Nat), Qjp a l r i i xs (∃ (a_2 : Option Addr) (n c_1 : Nat), Qj0 h'_2 l r (Qjo i) 3 = some [Value.slice a_2 n c_1] ∧ (∃ (x : Int) (h' : AHeap), Qjr 141 a_2 n c_1 (Qip (Qjn i)) h'_2 x h' (∃ (j : Nat × Int × AHeap × List (Sh.T proofSh)), Qiq (Qjj a xs c) (Qjj a xs c) x (Qjn j) (Qjo i) (Qjo j) (Qjl j) h' (Qjs h xs k a xs c ids j j j j) (List.length xs) (Prod.fst j) (List.length xs) (Prod.fst i) (∀ (k_1 : AHeap), Qis k_1 ids h k_1 (Qjk k_1 xs k a xs c ids) → Qis k_1 ids h k_1 (Qjk k_1 xs k a xs c ids)) (∀ (v : Value) (h : AHeap), Qir)))))))))))) (∃ (j : AHeap), Qih (Qjn i) (Qjm xs k) j (Qjl i) j ids h j (Qjk j xs k a xs c ids))) (Qji (Qid True))) = _) ?_; delta Qid Qie Qig Qih Qin Qio Qip Qiq Qir Qis Qiv Qj0 Qje Qjf Qji Qjj Qjk Qjl Qjm Qjn Qjo Qjp Qjq Qjr Qjs Qjt)
    simp only [true_and, and_true]
    rintro ⟨i, ki, g, ys⟩ I
    dsimp only at *
    have hi := I.hi
    have k0 := I.k0
    refine bs_d (fun hlt => ?_) (fun hge => ?_)
    · obtain ⟨x, hx⟩ : ∃ y : Sh.T proofSh, xs[i]? = some y := ⟨_, List.getElem?_eq_getElem (by omega)⟩
      have bd : (mrkL (Sh.mkd Sh.int) x.2.2.2 (ki + 1 + 1 + 1)).2 ≤ 1000000000000000 := I.bound hx hb
      obtain ⟨l, r, n', c', rows, cs, js, e, hin, E0, ro, hlj, ndj, hsub, fin⟩ := I.so.elem nd I.wf (I.at hx)
      cases e
      have q1 := Sh.mrkL_le Sh.int x.2.2.2 (ki + 1 + 1 + 1)
      obtain ⟨v1, j1, rfl, rfl, s1⟩ := ro_proof.1 ro
      obtain ⟨a1, c1, rfl⟩ := s1.sl.isSlice
      try simp only [List.mem_append, not_or, List.append_nil, List.nil_append, List.not_mem_nil, not_false_eq_true, true_and, and_true] at hlj
      try simp only [List.nodup_append, List.append_nil, List.nil_append, List.nodup_nil, List.not_mem_nil, List.mem_append, false_imp_iff, implies_true, true_and, and_true] at ndj
      obtain ⟨g1, w1, E1, o1⟩ := E0.wr 0 [.int .i64 (ki)] [.int .i64 (ki), .int .i64 x.2.1, .string x.2.2.1, _] (Nat.le_of_ble_eq_true rfl) rfl
      have s1 := s1.out o1 (nin1 hlj)
      refine ⟨l, r, rfl, Int.natCast_nonneg _, hlt, g1, w1, ?_⟩
      obtain ⟨g2, w2, E2, o2⟩ := E1.wr 1 [.int .i64 (ki + 1)] [.int .i64 (ki), .int .i64 (ki + 1), .string x.2.2.1, _] (Nat.le_of_ble_eq_true rfl) rfl
      have s1 := s1.out o2 (nin1 hlj)
      try rw [wrap_i64 (n := ki + 1) (by omega)]
      refine ⟨l, r, rfl, Int.natCast_nonneg _, hlt, g2, w2, ?_⟩
      obtain ⟨_, t1, A1, lt1, wt1, rfl⟩ := mt_spec (ki + 1 + 1) _ E2.wf (by omega)
      have E2 := E2.le lt1 wt1
      have s1 := So.le lt1 s1
      obtain ⟨g3, w3, E3, o3⟩ := E2.wr 2 [.string (mtext (ki + 1 + 1))] [.int .i64 (ki), .int .i64 (ki + 1), .string (mtext (ki + 1 + 1)), _] (Nat.le_of_ble_eq_true rfl) rfl
      have s1 := s1.out o3 (nin1 hlj)
      try rw [wrap_i64 (n := ki + 1 + 1) (by omega)]
      refine ⟨_, _, A1, l, r, rfl, Int.natCast_nonneg _, hlt, g3, w3, ?_⟩
      try rw [wrap_i64 (n := ki + 1 + 1 + 1) (by omega)]
      obtain ⟨_, t2, A2, rfl, wt2, ot2, s1⟩ := mkInt64S _ E3.wf x.2.2.2 _ _ s1 ndj (ki + 1 + 1 + 1) (by omega) (by omega)
      refine ⟨l, r, rfl, Int.natCast_nonneg _, hlt, _, _, _, E3.ld 3 1 (Nat.le_of_ble_eq_true rfl), _, _, A2, ?_⟩
      have F2' := E3.call ot2 wt2 hlj (by intro z hz; simp [hz])
      have so2 := fin _ _ (Sh.mkd proofSh x ki).1 F2' (ro_proof.2 ⟨_, _, rfl, rfl, s1⟩)
      exact ⟨(i + 1, (Sh.mkd proofSh x ki).2, _, ys.set i (Sh.mkd proofSh x ki).1), rfl, by rw [wrap_i64 (by omega)] <;> rfl, rfl, I.step hx F2'.wf (F2'.out.widen hsub) so2, by dsimp only; omega, fun _ h => h, fun _ _ h => h⟩
    · obtain ⟨e1, e2⟩ := I.finish (by omega)
      exact ⟨g, by rw [e1], rfl, I.wf, I.out, e2⟩
  · (refine vc_mp (by kernel_rfl : (∃ (i : Nat × Int × AHeap × List (Sh.T proofSh)), Qiw (Qjj a xs c) (Qjj a xs c) k (Qjn i) (Qjo i) (Qjl i) h (Qjs h xs k a xs c ids i i i i) (∀ (j : AHeap), Qis j ids h j (Qjk j xs k a xs c ids) → Q (Qig (Qjm xs k)) j) (∀ (v : Value) (h : AHeap), False → Q v h)) = _) ?_; delta Qig Qis Qiw Qjj Qjk Qjl Qjm Qjn Qjo Qjs)
    exact ⟨(0, k, h, xs), rfl, rfl, rfl, rfl, .start hw hk so, fun j hj => HQ _ _ ⟨rfl, hj⟩, fun _ _ h => h.elim⟩
def Qju (a : Prop) := Qid Qif ∧ True ∧ Qid Qif ∧ True ∧ a
def Qjv (a : Option Addr) (b c : Nat) (d e : Nat × Int × AHeap) (f : List (Sh.T proofSh)) (g : Prop) := Qin (Qiv a b c 4) (Qj1 d) (Qj1 e) (List.length f) g
def Qjw (a : Nat × Int × AHeap) (b c : Nat) (d : Nat × Int × AHeap) (e : Nat) (f : Int) (g : Bool) (h : Prop) := Qj2 a b c d e [Qig f] (bs (not g) False h)
theorem hdProofS (h : AHeap) (hw : h.wf) (xs : List (Sh.T proofSh)) (v : Value) (k : Int) (hx : Sl h proofSh (mrkL (Sh.mkd proofSh) xs k).1 v) (hk : 0 ≤ k) (hb : (mrkL (Sh.mkd proofSh) xs k).2 ≤ 1000000000000000) :
    ∃ w h', ACall Tryz.prog 103 [v, .int .i64 k] h w h' ∧ w = .int .i64 (mrkL (Sh.mkd proofSh) xs k).2 ∧ h'.wf ∧ h.Le h' := by
  have hn : (xs.length : Int) ≤ 1000000000000000 := by have := mrkL_cn (Sh.mkd_cn proofSh) xs k; have := len_le_sum (c := Sh.cn proofSh) (xs := xs) (fun x => by simp only [Sh.cn]; omega); omega
  obtain ⟨a, c, rfl⟩ := hx.isSlice
  rw [mrkL_len] at hx ⊢
  refine acall_q fun Q HQ => ?_
  refine acall_vc (fun _ => false) (fun r => match r with | 10 => [(0, 0, []), (1, 0, []), (2, 0, []), (3, 0, []), (5, 0, []), (4, 1, []), (6, 3, [4]), (7, 0, [])] | _ => []) (fun _ => hdLp proofSh h xs k (.slice a xs.length c)) mixed Tryz.func103 rfl rfl rfl (Nat.le_of_ble_eq_true rfl) ?_ ?_
  · (refine vc_mp (by kernel_rfl : (Qie (∀ (i : Nat × Int × AHeap), HdI proofSh h xs k (Prod.fst i) (Qiy i) (Qix i) → bs (decide (Qj1 i < (↑(List.length xs) : Int))) (∃ (l r : Nat), Qjv a l r i i xs (∃ (x : Int), Qj3 i l r i x (decide (x = Qiy i)) (∃ (l r : Nat), Qjv a l r i i xs (∃ (x : Int), Qjw i l r i 1 x (decide (x = Qj6 i)) (∃ (l r : Nat), Qjv a l r i i xs (∃ (x : ByteArray), Qj2 i l r i 2 (Qje x) (∃ (x_1 : ByteArray) (h' : AHeap), Qjg (Qjt (Qiy i)) i x_1 h' (∃ (x_2 : ByteArray), Qjh h' l r i 2 (Qje x_2) (Value.string x_2 = Value.string x)) (decide (x = x_1)) (∃ (l r : Nat), Qjv a l r i i xs (∃ (a_2 : Option Addr) (n c_1 : Nat), Qjh h' l r i 3 [Value.slice a_2 n c_1] (∃ (x : Int) (h'_1 : AHeap), Qjr 142 a_2 n c_1 (Qj6 i) h' x h'_1 (bs (decide (x < 0)) False (∃ (j : Nat × Int × AHeap), Qj4 (Qjj a xs c) (Qjj a xs c) x j i j j h'_1 (HdI proofSh h xs k (Prod.fst j) (Qiy j) (Qix j)) (List.length xs) j (List.length xs) i (∀ (k : AHeap), Qj5 k h k → Qj5 k h k) (∀ (v : Value) (h : AHeap), Qir))))))))))))) (∃ (j : AHeap), Qiz i (Qjm xs k) j i j h j)) (Qju (Qid Qif ∧ True ∧ True ∧ True ∧ Qif ∧ True))) = _) ?_; delta Qid Qie Qif Qig Qin Qip Qir Qiv Qix Qiy Qiz Qj0 Qj1 Qj2 Qj3 Qj4 Qj5 Qj6 Qje Qjf Qjg Qjh Qjj Qjm Qjq Qjr Qjt Qju Qjv Qjw)
    simp only [true_and, and_true]
    rintro ⟨i, ki, g⟩ I
    dsimp only at *
    have hi := I.hi
    have k0 := I.k0
    refine bs_d (fun hlt => ?_) (fun hge => ?_)
    · obtain ⟨x, hat⟩ : ∃ y : Sh.T proofSh, xs[i]? = some y := ⟨_, List.getElem?_eq_getElem (by omega)⟩
      have bd : (mrkL (Sh.mkd Sh.int) x.2.2.2 (ki + 1 + 1 + 1)).2 ≤ 1000000000000000 := I.bound hat hb
      have q1 := Sh.mrkL_le Sh.int x.2.2.2 (ki + 1 + 1 + 1)
      obtain ⟨l, r, row, ha, _, hrd, hld⟩ := (hx.mono I.le).elem (I.at hat)
      obtain ⟨v1, rfl, s1⟩ := rd_proof.1 hrd
      have hld : g.ld l (r + i) 0 4 = some [.int .i64 (ki), .int .i64 (ki + 1), .string (mtext (ki + 1 + 1)), v1] := hld
      have s1 : Sl g Sh.int (mrkL (Sh.mkd Sh.int) x.2.2.2 (ki + 1 + 1 + 1)).1 v1 := s1
      obtain ⟨a1, c1, rfl⟩ := s1.isSlice
      refine ⟨l, r, ha, Int.natCast_nonneg _, hlt, _, ld_cells (k := 0) (m := 1) hld (Nat.le_of_ble_eq_true rfl), bs_dn (fun e => absurd rfl e) (fun _ => ?_)⟩
      try rw [wrap_i64 (n := ki + 1) (by omega)]
      refine ⟨l, r, ha, Int.natCast_nonneg _, hlt, _, ld_cells (k := 1) (m := 1) hld (Nat.le_of_ble_eq_true rfl), bs_dn (fun e => absurd rfl e) (fun _ => ?_)⟩
      try rw [wrap_i64 (n := ki + 1 + 1) (by omega)]
      obtain ⟨_, t1, A1, lt1, wt1, rfl⟩ := mt_spec (ki + 1 + 1) _ I.wf (by omega)
      refine ⟨l, r, ha, Int.natCast_nonneg _, hlt, _, ld_cells (k := 2) (m := 1) hld (Nat.le_of_ble_eq_true rfl), _, _, A1, ⟨_, lt1.ld (ld_cells (k := 2) (m := 1) hld (Nat.le_of_ble_eq_true rfl)), rfl⟩, bs_dn (fun e => absurd rfl e) (fun _ => ?_)⟩
      have hld := lt1.ld hld
      have s1 := s1.mono lt1
      try rw [wrap_i64 (n := ki + 1 + 1 + 1) (by omega)]
      obtain ⟨_, t2, A2, rfl, wt2, lt2⟩ := hdInt64S _ wt1 x.2.2.2 _ (ki + 1 + 1 + 1) s1 (by omega) (by omega)
      refine ⟨l, r, ha, Int.natCast_nonneg _, hlt, _, _, _, ld_cells (k := 3) (m := 1) hld (Nat.le_of_ble_eq_true rfl), _, _, A2, bs_d (fun e => absurd e (by omega)) (fun _ => ?_)⟩
      have hld := lt2.ld hld
      have s1 := s1.mono lt2
      exact ⟨(i + 1, (Sh.mkd proofSh x ki).2, _), rfl, by rw [wrap_i64 (by omega)] <;> rfl, rfl, I.step hat wt2 (lt1.trans lt2), by dsimp only; omega, fun _ h => h, fun _ _ h => h⟩
    · exact ⟨g, by rw [I.finish (by omega)], rfl, I.wf, I.le⟩
  · (refine vc_mp (by kernel_rfl : (∃ (i : Nat × Int × AHeap), Qiw (Qjj a xs c) (Qjj a xs c) k (Qiy i) (Qj1 i) (Qix i) h (HdI proofSh h xs k (Prod.fst i) (Qiy i) (Qix i)) (∀ (j : AHeap), Qj5 j h j → Q (Qig (Qjm xs k)) j) (∀ (v : Value) (h : AHeap), False → Q v h)) = _) ?_; delta Qig Qiw Qix Qiy Qj1 Qj5 Qjj Qjm)
    exact ⟨(0, k, h), rfl, rfl, rfl, rfl, .start hw hk, fun j hj => HQ _ _ ⟨rfl, hj⟩, fun _ _ h => h.elim⟩
def Qjx (a : Option Addr) (b : List (Sh.T changeSh)) (c : Nat) := Value.slice a (List.length b) c
def Qjy (a : List (Sh.T changeSh)) (b : Int) := Prod.fst (mrkL (Sh.mkd changeSh) a b)
def Qjz (a : Nat × Int × AHeap × List (Sh.T changeSh)) := Prod.fst (Prod.snd (Prod.snd a))
def Qk0 (a : List (Sh.T changeSh)) (b : Int) := Prod.snd (mrkL (Sh.mkd changeSh) a b)
def Qk1 (a : Nat × Int × AHeap × List (Sh.T changeSh)) := Prod.fst (Prod.snd a)
def Qk2 (a : Nat × Int × AHeap × List (Sh.T changeSh)) := (↑(Prod.fst a) : Int)
def Qk3 (a : Option Addr) (b c : Nat) (d e : Nat × Int × AHeap × List (Sh.T changeSh)) (f : List (Sh.T changeSh)) (g : Prop) := Qin (Qiv a b c 3) (Qk2 d) (Qk2 e) (List.length f) g
def Qk4 (a : AHeap) (b : List (Sh.T changeSh)) (c : Int) (d : Option Addr) (e : List (Sh.T changeSh)) (f : Nat) (g : List Nat) (h i j k : Nat × Int × AHeap × List (Sh.T changeSh)) := MkI changeSh a b c (Qjx d e f) g (Prod.fst h) (Qk1 i) (Qjz j) (Prod.snd (Prod.snd (Prod.snd k)))
theorem mkChangeS (h : AHeap) (hw : h.wf) (xs : List (Sh.T changeSh)) (v : Value) (ids : List Nat) (so : So h changeSh xs v ids) (nd : ids.Nodup) (k : Int) (hk : 0 ≤ k) (hb : (mrkL (Sh.mkd changeSh) xs k).2 ≤ 1000000000000000) :
    ∃ w h', ACall Tryz.prog 45 [v, .int .i64 k] h w h' ∧ w = .int .i64 (mrkL (Sh.mkd changeSh) xs k).2 ∧ h'.wf ∧ Out ids h h' ∧ So h' changeSh (mrkL (Sh.mkd changeSh) xs k).1 v ids := by
  have hn : (xs.length : Int) ≤ 1000000000000000 := by have := mrkL_cn (Sh.mkd_cn changeSh) xs k; have := len_le_sum (c := Sh.cn changeSh) (xs := xs) (fun x => by simp only [Sh.cn]; omega); omega
  obtain ⟨a, c, rfl⟩ := so.sl.isSlice
  refine acall_q fun Q HQ => ?_
  refine acall_vc (fun _ => false) (fun _ => []) (fun _ => mkLp changeSh h xs k (.slice a xs.length c) ids) mixed Tryz.func45 rfl rfl rfl (Nat.le_of_ble_eq_true rfl) ?_ ?_
  · (refine vc_mp (by kernel_rfl : (Qie (∀ (i : Nat × Int × AHeap × List (Sh.T changeSh)), Qk4 h xs k a xs c ids i i i i → bs (decide (Qk2 i < (↑(List.length xs) : Int))) (∃ (l r : Nat), Qk3 a l r i i xs (∃ (h' : AHeap), Qio (Qjz i) l r (Qk2 i) 0 [Qig (Qk1 i)] h' (∃ (l r : Nat), Qk3 a l r i i xs (∃ (h'_1 : AHeap), Qio h' l r (Qk2 i) 1 [Qig (Qip (Qk1 i))] h'_1 (∃ (l r : Nat), Qk3 a l r i i xs (∃ (a_2 : Option Addr) (n c_1 : Nat), Qj0 h'_1 l r (Qk2 i) 2 = some [Value.slice a_2 n c_1] ∧ (∃ (x : Int) (h' : AHeap), Qjr 102 a_2 n c_1 (Qk1 i) h'_1 x h' (∃ (j : Nat × Int × AHeap × List (Sh.T changeSh)), Qiq (Qjx a xs c) (Qjx a xs c) x (Qk1 j) (Qk2 i) (Qk2 j) (Qjz j) h' (Qk4 h xs k a xs c ids j j j j) (List.length xs) (Prod.fst j) (List.length xs) (Prod.fst i) (∀ (k_1 : AHeap), Qis k_1 ids h k_1 (So k_1 changeSh (Qjy xs k) (Qjx a xs c) ids) → Qis k_1 ids h k_1 (So k_1 changeSh (Qjy xs k) (Qjx a xs c) ids)) (∀ (v : Value) (h : AHeap), Qir))))))))) (∃ (j : AHeap), Qih (Qk1 i) (Qk0 xs k) j (Qjz i) j ids h j (So j changeSh (Qjy xs k) (Qjx a xs c) ids))) (Qji True)) = _) ?_; delta Qid Qie Qig Qih Qin Qio Qip Qiq Qir Qis Qiv Qj0 Qji Qjq Qjr Qjx Qjy Qjz Qk0 Qk1 Qk2 Qk3 Qk4)
    simp only [true_and, and_true]
    rintro ⟨i, ki, g, ys⟩ I
    dsimp only at *
    have hi := I.hi
    have k0 := I.k0
    refine bs_d (fun hlt => ?_) (fun hge => ?_)
    · obtain ⟨x, hx⟩ : ∃ y : Sh.T changeSh, xs[i]? = some y := ⟨_, List.getElem?_eq_getElem (by omega)⟩
      have bd : (mrkL (Sh.mkd proofSh) x.2.2 (ki + 1 + 1)).2 ≤ 1000000000000000 := I.bound hx hb
      obtain ⟨l, r, n', c', rows, cs, js, e, hin, E0, ro, hlj, ndj, hsub, fin⟩ := I.so.elem nd I.wf (I.at hx)
      cases e
      have q1 := Sh.mrkL_le proofSh x.2.2 (ki + 1 + 1)
      obtain ⟨v1, j1, rfl, rfl, s1⟩ := ro_change.1 ro
      obtain ⟨a1, c1, rfl⟩ := s1.sl.isSlice
      try simp only [List.mem_append, not_or, List.append_nil, List.nil_append, List.not_mem_nil, not_false_eq_true, true_and, and_true] at hlj
      try simp only [List.nodup_append, List.append_nil, List.nil_append, List.nodup_nil, List.not_mem_nil, List.mem_append, false_imp_iff, implies_true, true_and, and_true] at ndj
      obtain ⟨g1, w1, E1, o1⟩ := E0.wr 0 [.int .i64 (ki)] [.int .i64 (ki), .int .i64 x.2.1, _] (Nat.le_of_ble_eq_true rfl) rfl
      have s1 := s1.out o1 (nin1 hlj)
      refine ⟨l, r, rfl, Int.natCast_nonneg _, hlt, g1, w1, ?_⟩
      obtain ⟨g2, w2, E2, o2⟩ := E1.wr 1 [.int .i64 (ki + 1)] [.int .i64 (ki), .int .i64 (ki + 1), _] (Nat.le_of_ble_eq_true rfl) rfl
      have s1 := s1.out o2 (nin1 hlj)
      try rw [wrap_i64 (n := ki + 1) (by omega)]
      refine ⟨l, r, rfl, Int.natCast_nonneg _, hlt, g2, w2, ?_⟩
      try rw [wrap_i64 (n := ki + 1 + 1) (by omega)]
      obtain ⟨_, t1, A1, rfl, wt1, ot1, s1⟩ := mkProofS _ E2.wf x.2.2 _ _ s1 ndj (ki + 1 + 1) (by omega) (by omega)
      refine ⟨l, r, rfl, Int.natCast_nonneg _, hlt, _, _, _, E2.ld 2 1 (Nat.le_of_ble_eq_true rfl), _, _, A1, ?_⟩
      have F1' := E2.call ot1 wt1 hlj (by intro z hz; simp [hz])
      have so2 := fin _ _ (Sh.mkd changeSh x ki).1 F1' (ro_change.2 ⟨_, _, rfl, rfl, s1⟩)
      exact ⟨(i + 1, (Sh.mkd changeSh x ki).2, _, ys.set i (Sh.mkd changeSh x ki).1), rfl, by rw [wrap_i64 (by omega)] <;> rfl, rfl, I.step hx F1'.wf (F1'.out.widen hsub) so2, by dsimp only; omega, fun _ h => h, fun _ _ h => h⟩
    · obtain ⟨e1, e2⟩ := I.finish (by omega)
      exact ⟨g, by rw [e1], rfl, I.wf, I.out, e2⟩
  · (refine vc_mp (by kernel_rfl : (∃ (i : Nat × Int × AHeap × List (Sh.T changeSh)), Qiw (Qjx a xs c) (Qjx a xs c) k (Qk1 i) (Qk2 i) (Qjz i) h (Qk4 h xs k a xs c ids i i i i) (∀ (j : AHeap), Qis j ids h j (So j changeSh (Qjy xs k) (Qjx a xs c) ids) → Q (Qig (Qk0 xs k)) j) (∀ (v : Value) (h : AHeap), False → Q v h)) = _) ?_; delta Qig Qis Qiw Qjx Qjy Qjz Qk0 Qk1 Qk2 Qk4)
    exact ⟨(0, k, h, xs), rfl, rfl, rfl, rfl, .start hw hk so, fun j hj => HQ _ _ ⟨rfl, hj⟩, fun _ _ h => h.elim⟩
def Qk5 (a : Option Addr) (b c : Nat) (d e : Nat × Int × AHeap) (f : List (Sh.T changeSh)) (g : Prop) := Qin (Qiv a b c 3) (Qj1 d) (Qj1 e) (List.length f) g
theorem hdChangeS (h : AHeap) (hw : h.wf) (xs : List (Sh.T changeSh)) (v : Value) (k : Int) (hx : Sl h changeSh (mrkL (Sh.mkd changeSh) xs k).1 v) (hk : 0 ≤ k) (hb : (mrkL (Sh.mkd changeSh) xs k).2 ≤ 1000000000000000) :
    ∃ w h', ACall Tryz.prog 48 [v, .int .i64 k] h w h' ∧ w = .int .i64 (mrkL (Sh.mkd changeSh) xs k).2 ∧ h'.wf ∧ h.Le h' := by
  have hn : (xs.length : Int) ≤ 1000000000000000 := by have := mrkL_cn (Sh.mkd_cn changeSh) xs k; have := len_le_sum (c := Sh.cn changeSh) (xs := xs) (fun x => by simp only [Sh.cn]; omega); omega
  obtain ⟨a, c, rfl⟩ := hx.isSlice
  rw [mrkL_len] at hx ⊢
  refine acall_q fun Q HQ => ?_
  refine acall_vc (fun _ => false) (fun _ => []) (fun _ => hdLp changeSh h xs k (.slice a xs.length c)) mixed Tryz.func48 rfl rfl rfl (Nat.le_of_ble_eq_true rfl) ?_ ?_
  · (refine vc_mp (by kernel_rfl : (Qie (∀ (i : Nat × Int × AHeap), HdI changeSh h xs k (Prod.fst i) (Qiy i) (Qix i) → bs (decide (Qj1 i < (↑(List.length xs) : Int))) (∃ (l r : Nat), Qk5 a l r i i xs (∃ (x : Int), Qj3 i l r i x (decide (x = Qiy i)) (∃ (l r : Nat), Qk5 a l r i i xs (∃ (x : Int), Qjw i l r i 1 x (decide (x = Qj6 i)) (∃ (l r : Nat), Qk5 a l r i i xs (∃ (a_2 : Option Addr) (n c_1 : Nat), Qj2 i l r i 2 [Value.slice a_2 n c_1] (∃ (x : Int) (h' : AHeap), Qjr 103 a_2 n c_1 (Qiy i) (Qix i) x h' (bs (decide (x < 0)) False (∃ (j : Nat × Int × AHeap), Qj4 (Qjx a xs c) (Qjx a xs c) x j i j j h' (HdI changeSh h xs k (Prod.fst j) (Qiy j) (Qix j)) (List.length xs) j (List.length xs) i (∀ (k : AHeap), Qj5 k h k → Qj5 k h k) (∀ (v : Value) (h : AHeap), Qir)))))))))) (∃ (j : AHeap), Qiz i (Qk0 xs k) j i j h j)) (Qju (True ∧ True ∧ Qif ∧ True))) = _) ?_; delta Qid Qie Qif Qig Qin Qip Qir Qiv Qix Qiy Qiz Qj0 Qj1 Qj2 Qj3 Qj4 Qj5 Qj6 Qjq Qjr Qju Qjw Qjx Qk0 Qk5)
    simp only [true_and, and_true]
    rintro ⟨i, ki, g⟩ I
    dsimp only at *
    have hi := I.hi
    have k0 := I.k0
    refine bs_d (fun hlt => ?_) (fun hge => ?_)
    · obtain ⟨x, hat⟩ : ∃ y : Sh.T changeSh, xs[i]? = some y := ⟨_, List.getElem?_eq_getElem (by omega)⟩
      have bd : (mrkL (Sh.mkd proofSh) x.2.2 (ki + 1 + 1)).2 ≤ 1000000000000000 := I.bound hat hb
      have q1 := Sh.mrkL_le proofSh x.2.2 (ki + 1 + 1)
      obtain ⟨l, r, row, ha, _, hrd, hld⟩ := (hx.mono I.le).elem (I.at hat)
      obtain ⟨v1, rfl, s1⟩ := rd_change.1 hrd
      have hld : g.ld l (r + i) 0 3 = some [.int .i64 (ki), .int .i64 (ki + 1), v1] := hld
      have s1 : Sl g proofSh (mrkL (Sh.mkd proofSh) x.2.2 (ki + 1 + 1)).1 v1 := s1
      obtain ⟨a1, c1, rfl⟩ := s1.isSlice
      refine ⟨l, r, ha, Int.natCast_nonneg _, hlt, _, ld_cells (k := 0) (m := 1) hld (Nat.le_of_ble_eq_true rfl), bs_dn (fun e => absurd rfl e) (fun _ => ?_)⟩
      try rw [wrap_i64 (n := ki + 1) (by omega)]
      refine ⟨l, r, ha, Int.natCast_nonneg _, hlt, _, ld_cells (k := 1) (m := 1) hld (Nat.le_of_ble_eq_true rfl), bs_dn (fun e => absurd rfl e) (fun _ => ?_)⟩
      try rw [wrap_i64 (n := ki + 1 + 1) (by omega)]
      obtain ⟨_, t1, A1, rfl, wt1, lt1⟩ := hdProofS _ I.wf x.2.2 _ (ki + 1 + 1) s1 (by omega) (by omega)
      refine ⟨l, r, ha, Int.natCast_nonneg _, hlt, _, _, _, ld_cells (k := 2) (m := 1) hld (Nat.le_of_ble_eq_true rfl), _, _, A1, bs_d (fun e => absurd e (by omega)) (fun _ => ?_)⟩
      have hld := lt1.ld hld
      have s1 := s1.mono lt1
      exact ⟨(i + 1, (Sh.mkd changeSh x ki).2, _), rfl, by rw [wrap_i64 (by omega)] <;> rfl, rfl, I.step hat wt1 lt1, by dsimp only; omega, fun _ h => h, fun _ _ h => h⟩
    · exact ⟨g, by rw [I.finish (by omega)], rfl, I.wf, I.le⟩
  · (refine vc_mp (by kernel_rfl : (∃ (i : Nat × Int × AHeap), Qiw (Qjx a xs c) (Qjx a xs c) k (Qiy i) (Qj1 i) (Qix i) h (HdI changeSh h xs k (Prod.fst i) (Qiy i) (Qix i)) (∀ (j : AHeap), Qj5 j h j → Q (Qig (Qk0 xs k)) j) (∀ (v : Value) (h : AHeap), False → Q v h)) = _) ?_; delta Qig Qiw Qix Qiy Qj1 Qj5 Qjx Qk0)
    exact ⟨(0, k, h), rfl, rfl, rfl, rfl, .start hw hk, fun j hj => HQ _ _ ⟨rfl, hj⟩, fun _ _ h => h.elim⟩
def Qk6 (a : Option Addr) (b : List (Sh.T saySh)) (c : Nat) := Value.slice a (List.length b) c
def Qk7 (a : List (Sh.T saySh)) (b : Int) := Prod.fst (mrkL (Sh.mkd saySh) a b)
def Qk8 (a : Nat × Int × AHeap × List (Sh.T saySh)) := Prod.fst (Prod.snd (Prod.snd a))
def Qk9 (a : List (Sh.T saySh)) (b : Int) := Prod.snd (mrkL (Sh.mkd saySh) a b)
def Qka (a : Nat × Int × AHeap × List (Sh.T saySh)) := Prod.fst (Prod.snd a)
def Qkb (a : Nat × Int × AHeap × List (Sh.T saySh)) := (↑(Prod.fst a) : Int)
def Qkc (a : Option Addr) (b c : Nat) (d e : Nat × Int × AHeap × List (Sh.T saySh)) (f : List (Sh.T saySh)) (g : Prop) := Qin (Qiv a b c 6) (Qkb d) (Qkb e) (List.length f) g
def Qkd (a : AHeap) (b : List (Sh.T saySh)) (c : Int) (d : Option Addr) (e : List (Sh.T saySh)) (f : Nat) (g : List Nat) (h i j k : Nat × Int × AHeap × List (Sh.T saySh)) := MkI saySh a b c (Qk6 d e f) g (Prod.fst h) (Qka i) (Qk8 j) (Prod.snd (Prod.snd (Prod.snd k)))
theorem mkSayS (h : AHeap) (hw : h.wf) (xs : List (Sh.T saySh)) (v : Value) (ids : List Nat) (so : So h saySh xs v ids) (nd : ids.Nodup) (k : Int) (hk : 0 ≤ k) (hb : (mrkL (Sh.mkd saySh) xs k).2 ≤ 1000000000000000) :
    ∃ w h', ACall Tryz.prog 14 [v, .int .i64 k] h w h' ∧ w = .int .i64 (mrkL (Sh.mkd saySh) xs k).2 ∧ h'.wf ∧ Out ids h h' ∧ So h' saySh (mrkL (Sh.mkd saySh) xs k).1 v ids := by
  have hn : (xs.length : Int) ≤ 1000000000000000 := by have := mrkL_cn (Sh.mkd_cn saySh) xs k; have := len_le_sum (c := Sh.cn saySh) (xs := xs) (fun x => by simp only [Sh.cn]; omega); omega
  obtain ⟨a, c, rfl⟩ := so.sl.isSlice
  refine acall_q fun Q HQ => ?_
  refine acall_vc (fun _ => false) (fun _ => []) (fun _ => mkLp saySh h xs k (.slice a xs.length c) ids) mixed Tryz.func14 rfl rfl rfl (Nat.le_of_ble_eq_true rfl) ?_ ?_
  · (refine vc_mp (by kernel_rfl : (Qie (∀ (i : Nat × Int × AHeap × List (Sh.T saySh)), Qkd h xs k a xs c ids i i i i → bs (decide (Qkb i < (↑(List.length xs) : Int))) (∃ (l r : Nat), Qkc a l r i i xs (∃ (h' : AHeap), Qio (Qk8 i) l r (Qkb i) 0 [Qig (Qka i)] h' (∃ (l r : Nat), Qkc a l r i i xs (∃ (h'_1 : AHeap), Qio h' l r (Qkb i) 1 [Qig (Qip (Qka i))] h'_1 (∃ (l r : Nat), Qkc a l r i i xs (∃ (h' : AHeap), Qio h'_1 l r (Qkb i) 2 (Qjt (Qka i)) h' (∃ (l r : Nat), Qkc a l r i i xs (∃ (h'_2 : AHeap), Qio h' l r (Qkb i) 3 (Qjt (Qip (Qka i))) h'_2 (∃ (x : ByteArray) (h' : AHeap), Qjf (Qjt (Qjq (Qka i))) h'_2 x h' ∧ (∃ (l r : Nat), Qkc a l r i i xs (∃ (h'_3 : AHeap), Qio h' l r (Qkb i) 4 (Qje x) h'_3 (∃ (l r : Nat), Qkc a l r i i xs (∃ (a_2 : Option Addr) (n c_1 : Nat), Qj0 h'_3 l r (Qkb i) 5 = some [Value.slice a_2 n c_1] ∧ (∃ (x : Int) (h' : AHeap), Qjr 45 a_2 n c_1 (Qjq (Qip (Qka i))) h'_3 x h' (∃ (j : Nat × Int × AHeap × List (Sh.T saySh)), Qiq (Qk6 a xs c) (Qk6 a xs c) x (Qka j) (Qkb i) (Qkb j) (Qk8 j) h' (Qkd h xs k a xs c ids j j j j) (List.length xs) (Prod.fst j) (List.length xs) (Prod.fst i) (∀ (k_1 : AHeap), Qis k_1 ids h k_1 (So k_1 saySh (Qk7 xs k) (Qk6 a xs c) ids) → Qis k_1 ids h k_1 (So k_1 saySh (Qk7 xs k) (Qk6 a xs c) ids)) (∀ (v : Value) (h : AHeap), Qir)))))))))))))))) (∃ (j : AHeap), Qih (Qka i) (Qk9 xs k) j (Qk8 i) j ids h j (So j saySh (Qk7 xs k) (Qk6 a xs c) ids))) (Qji (Qji (Qid True)))) = _) ?_; delta Qid Qie Qig Qih Qin Qio Qip Qiq Qir Qis Qiv Qj0 Qje Qjf Qji Qjq Qjr Qjt Qk6 Qk7 Qk8 Qk9 Qka Qkb Qkc Qkd)
    simp only [true_and, and_true]
    rintro ⟨i, ki, g, ys⟩ I
    dsimp only at *
    have hi := I.hi
    have k0 := I.k0
    refine bs_d (fun hlt => ?_) (fun hge => ?_)
    · obtain ⟨x, hx⟩ : ∃ y : Sh.T saySh, xs[i]? = some y := ⟨_, List.getElem?_eq_getElem (by omega)⟩
      have bd : (mrkL (Sh.mkd changeSh) x.2.2.2.2.2 (ki + 1 + 1 + 1 + 1 + 1)).2 ≤ 1000000000000000 := I.bound hx hb
      obtain ⟨l, r, n', c', rows, cs, js, e, hin, E0, ro, hlj, ndj, hsub, fin⟩ := I.so.elem nd I.wf (I.at hx)
      cases e
      have q1 := Sh.mrkL_le changeSh x.2.2.2.2.2 (ki + 1 + 1 + 1 + 1 + 1)
      obtain ⟨v1, j1, rfl, rfl, s1⟩ := ro_say.1 ro
      obtain ⟨a1, c1, rfl⟩ := s1.sl.isSlice
      try simp only [List.mem_append, not_or, List.append_nil, List.nil_append, List.not_mem_nil, not_false_eq_true, true_and, and_true] at hlj
      try simp only [List.nodup_append, List.append_nil, List.nil_append, List.nodup_nil, List.not_mem_nil, List.mem_append, false_imp_iff, implies_true, true_and, and_true] at ndj
      obtain ⟨g1, w1, E1, o1⟩ := E0.wr 0 [.int .i64 (ki)] [.int .i64 (ki), .int .i64 x.2.1, .int .i64 x.2.2.1, .int .i64 x.2.2.2.1, .string x.2.2.2.2.1, _] (Nat.le_of_ble_eq_true rfl) rfl
      have s1 := s1.out o1 (nin1 hlj)
      refine ⟨l, r, rfl, Int.natCast_nonneg _, hlt, g1, w1, ?_⟩
      obtain ⟨g2, w2, E2, o2⟩ := E1.wr 1 [.int .i64 (ki + 1)] [.int .i64 (ki), .int .i64 (ki + 1), .int .i64 x.2.2.1, .int .i64 x.2.2.2.1, .string x.2.2.2.2.1, _] (Nat.le_of_ble_eq_true rfl) rfl
      have s1 := s1.out o2 (nin1 hlj)
      try rw [wrap_i64 (n := ki + 1) (by omega)]
      refine ⟨l, r, rfl, Int.natCast_nonneg _, hlt, g2, w2, ?_⟩
      obtain ⟨g3, w3, E3, o3⟩ := E2.wr 2 [.int .i64 (ki + 1 + 1)] [.int .i64 (ki), .int .i64 (ki + 1), .int .i64 (ki + 1 + 1), .int .i64 x.2.2.2.1, .string x.2.2.2.2.1, _] (Nat.le_of_ble_eq_true rfl) rfl
      have s1 := s1.out o3 (nin1 hlj)
      try rw [wrap_i64 (n := ki + 1 + 1) (by omega)]
      refine ⟨l, r, rfl, Int.natCast_nonneg _, hlt, g3, w3, ?_⟩
      obtain ⟨g4, w4, E4, o4⟩ := E3.wr 3 [.int .i64 (ki + 1 + 1 + 1)] [.int .i64 (ki), .int .i64 (ki + 1), .int .i64 (ki + 1 + 1), .int .i64 (ki + 1 + 1 + 1), .string x.2.2.2.2.1, _] (Nat.le_of_ble_eq_true rfl) rfl
      have s1 := s1.out o4 (nin1 hlj)
      try rw [wrap_i64 (n := ki + 1 + 1 + 1) (by omega)]
      refine ⟨l, r, rfl, Int.natCast_nonneg _, hlt, g4, w4, ?_⟩
      obtain ⟨_, t1, A1, lt1, wt1, rfl⟩ := mt_spec (ki + 1 + 1 + 1 + 1) _ E4.wf (by omega)
      have E4 := E4.le lt1 wt1
      have s1 := So.le lt1 s1
      obtain ⟨g5, w5, E5, o5⟩ := E4.wr 4 [.string (mtext (ki + 1 + 1 + 1 + 1))] [.int .i64 (ki), .int .i64 (ki + 1), .int .i64 (ki + 1 + 1), .int .i64 (ki + 1 + 1 + 1), .string (mtext (ki + 1 + 1 + 1 + 1)), _] (Nat.le_of_ble_eq_true rfl) rfl
      have s1 := s1.out o5 (nin1 hlj)
      try rw [wrap_i64 (n := ki + 1 + 1 + 1 + 1) (by omega)]
      refine ⟨_, _, A1, l, r, rfl, Int.natCast_nonneg _, hlt, g5, w5, ?_⟩
      try rw [wrap_i64 (n := ki + 1 + 1 + 1 + 1 + 1) (by omega)]
      obtain ⟨_, t2, A2, rfl, wt2, ot2, s1⟩ := mkChangeS _ E5.wf x.2.2.2.2.2 _ _ s1 ndj (ki + 1 + 1 + 1 + 1 + 1) (by omega) (by omega)
      refine ⟨l, r, rfl, Int.natCast_nonneg _, hlt, _, _, _, E5.ld 5 1 (Nat.le_of_ble_eq_true rfl), _, _, A2, ?_⟩
      have F2' := E5.call ot2 wt2 hlj (by intro z hz; simp [hz])
      have so2 := fin _ _ (Sh.mkd saySh x ki).1 F2' (ro_say.2 ⟨_, _, rfl, rfl, s1⟩)
      exact ⟨(i + 1, (Sh.mkd saySh x ki).2, _, ys.set i (Sh.mkd saySh x ki).1), rfl, by rw [wrap_i64 (by omega)] <;> rfl, rfl, I.step hx F2'.wf (F2'.out.widen hsub) so2, by dsimp only; omega, fun _ h => h, fun _ _ h => h⟩
    · obtain ⟨e1, e2⟩ := I.finish (by omega)
      exact ⟨g, by rw [e1], rfl, I.wf, I.out, e2⟩
  · (refine vc_mp (by kernel_rfl : (∃ (i : Nat × Int × AHeap × List (Sh.T saySh)), Qiw (Qk6 a xs c) (Qk6 a xs c) k (Qka i) (Qkb i) (Qk8 i) h (Qkd h xs k a xs c ids i i i i) (∀ (j : AHeap), Qis j ids h j (So j saySh (Qk7 xs k) (Qk6 a xs c) ids) → Q (Qig (Qk9 xs k)) j) (∀ (v : Value) (h : AHeap), False → Q v h)) = _) ?_; delta Qig Qis Qiw Qk6 Qk7 Qk8 Qk9 Qka Qkb Qkd)
    exact ⟨(0, k, h, xs), rfl, rfl, rfl, rfl, .start hw hk so, fun j hj => HQ _ _ ⟨rfl, hj⟩, fun _ _ h => h.elim⟩
def Qke (a : Option Addr) (b c : Nat) (d e : Nat × Int × AHeap) (f : List (Sh.T saySh)) (g : Prop) := Qin (Qiv a b c 6) (Qj1 d) (Qj1 e) (List.length f) g
theorem hdSayS (h : AHeap) (hw : h.wf) (xs : List (Sh.T saySh)) (v : Value) (k : Int) (hx : Sl h saySh (mrkL (Sh.mkd saySh) xs k).1 v) (hk : 0 ≤ k) (hb : (mrkL (Sh.mkd saySh) xs k).2 ≤ 1000000000000000) :
    ∃ w h', ACall Tryz.prog 15 [v, .int .i64 k] h w h' ∧ w = .int .i64 (mrkL (Sh.mkd saySh) xs k).2 ∧ h'.wf ∧ h.Le h' := by
  have hn : (xs.length : Int) ≤ 1000000000000000 := by have := mrkL_cn (Sh.mkd_cn saySh) xs k; have := len_le_sum (c := Sh.cn saySh) (xs := xs) (fun x => by simp only [Sh.cn]; omega); omega
  obtain ⟨a, c, rfl⟩ := hx.isSlice
  rw [mrkL_len] at hx ⊢
  refine acall_q fun Q HQ => ?_
  refine acall_vc (fun _ => false) (fun r => match r with | 16 => [(0, 0, []), (1, 0, []), (2, 0, []), (3, 0, []), (5, 0, []), (4, 1, []), (6, 3, [4]), (7, 0, [])] | _ => []) (fun _ => hdLp saySh h xs k (.slice a xs.length c)) mixed Tryz.func15 rfl rfl rfl (Nat.le_of_ble_eq_true rfl) ?_ ?_
  · (refine vc_mp (by kernel_rfl : (Qie (∀ (i : Nat × Int × AHeap), HdI saySh h xs k (Prod.fst i) (Qiy i) (Qix i) → bs (decide (Qj1 i < (↑(List.length xs) : Int))) (∃ (l r : Nat), Qke a l r i i xs (∃ (x : Int), Qj3 i l r i x (decide (x = Qiy i)) (∃ (l r : Nat), Qke a l r i i xs (∃ (x : Int), Qjw i l r i 1 x (decide (x = Qj6 i)) (∃ (l r : Nat), Qke a l r i i xs (∃ (x : Int), Qjw i l r i 2 x (decide (x = Qjq (Qiy i))) (∃ (l r : Nat), Qke a l r i i xs (∃ (x : Int), Qjw i l r i 3 x (decide (x = Qjq (Qj6 i))) (∃ (l r : Nat), Qke a l r i i xs (∃ (x : ByteArray), Qj2 i l r i 4 (Qje x) (∃ (x_1 : ByteArray) (h' : AHeap), Qjg (Qjt (Qjq (Qiy i))) i x_1 h' (∃ (x_2 : ByteArray), Qjh h' l r i 4 (Qje x_2) (Value.string x_2 = Value.string x)) (decide (x = x_1)) (∃ (l r : Nat), Qke a l r i i xs (∃ (a_2 : Option Addr) (n c_1 : Nat), Qjh h' l r i 5 [Value.slice a_2 n c_1] (∃ (x : Int) (h'_1 : AHeap), Qjr 48 a_2 n c_1 (Qjq (Qj6 i)) h' x h'_1 (bs (decide (x < 0)) False (∃ (j : Nat × Int × AHeap), Qj4 (Qk6 a xs c) (Qk6 a xs c) x j i j j h'_1 (HdI saySh h xs k (Prod.fst j) (Qiy j) (Qix j)) (List.length xs) j (List.length xs) i (∀ (k : AHeap), Qj5 k h k → Qj5 k h k) (∀ (v : Value) (h : AHeap), Qir))))))))))))))))) (∃ (j : AHeap), Qiz i (Qk9 xs k) j i j h j)) (Qju (Qju (Qid Qif ∧ True ∧ True ∧ True ∧ Qif ∧ True)))) = _) ?_; delta Qid Qie Qif Qig Qin Qip Qir Qiv Qix Qiy Qiz Qj0 Qj1 Qj2 Qj3 Qj4 Qj5 Qj6 Qje Qjf Qjg Qjh Qjq Qjr Qjt Qju Qjw Qk6 Qk9 Qke)
    simp only [true_and, and_true]
    rintro ⟨i, ki, g⟩ I
    dsimp only at *
    have hi := I.hi
    have k0 := I.k0
    refine bs_d (fun hlt => ?_) (fun hge => ?_)
    · obtain ⟨x, hat⟩ : ∃ y : Sh.T saySh, xs[i]? = some y := ⟨_, List.getElem?_eq_getElem (by omega)⟩
      have bd : (mrkL (Sh.mkd changeSh) x.2.2.2.2.2 (ki + 1 + 1 + 1 + 1 + 1)).2 ≤ 1000000000000000 := I.bound hat hb
      have q1 := Sh.mrkL_le changeSh x.2.2.2.2.2 (ki + 1 + 1 + 1 + 1 + 1)
      obtain ⟨l, r, row, ha, _, hrd, hld⟩ := (hx.mono I.le).elem (I.at hat)
      obtain ⟨v1, rfl, s1⟩ := rd_say.1 hrd
      have hld : g.ld l (r + i) 0 6 = some [.int .i64 (ki), .int .i64 (ki + 1), .int .i64 (ki + 1 + 1), .int .i64 (ki + 1 + 1 + 1), .string (mtext (ki + 1 + 1 + 1 + 1)), v1] := hld
      have s1 : Sl g changeSh (mrkL (Sh.mkd changeSh) x.2.2.2.2.2 (ki + 1 + 1 + 1 + 1 + 1)).1 v1 := s1
      obtain ⟨a1, c1, rfl⟩ := s1.isSlice
      refine ⟨l, r, ha, Int.natCast_nonneg _, hlt, _, ld_cells (k := 0) (m := 1) hld (Nat.le_of_ble_eq_true rfl), bs_dn (fun e => absurd rfl e) (fun _ => ?_)⟩
      try rw [wrap_i64 (n := ki + 1) (by omega)]
      refine ⟨l, r, ha, Int.natCast_nonneg _, hlt, _, ld_cells (k := 1) (m := 1) hld (Nat.le_of_ble_eq_true rfl), bs_dn (fun e => absurd rfl e) (fun _ => ?_)⟩
      try rw [wrap_i64 (n := ki + 1 + 1) (by omega)]
      refine ⟨l, r, ha, Int.natCast_nonneg _, hlt, _, ld_cells (k := 2) (m := 1) hld (Nat.le_of_ble_eq_true rfl), bs_dn (fun e => absurd rfl e) (fun _ => ?_)⟩
      try rw [wrap_i64 (n := ki + 1 + 1 + 1) (by omega)]
      refine ⟨l, r, ha, Int.natCast_nonneg _, hlt, _, ld_cells (k := 3) (m := 1) hld (Nat.le_of_ble_eq_true rfl), bs_dn (fun e => absurd rfl e) (fun _ => ?_)⟩
      try rw [wrap_i64 (n := ki + 1 + 1 + 1 + 1) (by omega)]
      obtain ⟨_, t1, A1, lt1, wt1, rfl⟩ := mt_spec (ki + 1 + 1 + 1 + 1) _ I.wf (by omega)
      refine ⟨l, r, ha, Int.natCast_nonneg _, hlt, _, ld_cells (k := 4) (m := 1) hld (Nat.le_of_ble_eq_true rfl), _, _, A1, ⟨_, lt1.ld (ld_cells (k := 4) (m := 1) hld (Nat.le_of_ble_eq_true rfl)), rfl⟩, bs_dn (fun e => absurd rfl e) (fun _ => ?_)⟩
      have hld := lt1.ld hld
      have s1 := s1.mono lt1
      try rw [wrap_i64 (n := ki + 1 + 1 + 1 + 1 + 1) (by omega)]
      obtain ⟨_, t2, A2, rfl, wt2, lt2⟩ := hdChangeS _ wt1 x.2.2.2.2.2 _ (ki + 1 + 1 + 1 + 1 + 1) s1 (by omega) (by omega)
      refine ⟨l, r, ha, Int.natCast_nonneg _, hlt, _, _, _, ld_cells (k := 5) (m := 1) hld (Nat.le_of_ble_eq_true rfl), _, _, A2, bs_d (fun e => absurd e (by omega)) (fun _ => ?_)⟩
      have hld := lt2.ld hld
      have s1 := s1.mono lt2
      exact ⟨(i + 1, (Sh.mkd saySh x ki).2, _), rfl, by rw [wrap_i64 (by omega)] <;> rfl, rfl, I.step hat wt2 (lt1.trans lt2), by dsimp only; omega, fun _ h => h, fun _ _ h => h⟩
    · exact ⟨g, by rw [I.finish (by omega)], rfl, I.wf, I.le⟩
  · (refine vc_mp (by kernel_rfl : (∃ (i : Nat × Int × AHeap), Qiw (Qk6 a xs c) (Qk6 a xs c) k (Qiy i) (Qj1 i) (Qix i) h (HdI saySh h xs k (Prod.fst i) (Qiy i) (Qix i)) (∀ (j : AHeap), Qj5 j h j → Q (Qig (Qk9 xs k)) j) (∀ (v : Value) (h : AHeap), False → Q v h)) = _) ?_; delta Qig Qiw Qix Qiy Qj1 Qj5 Qk6 Qk9)
    exact ⟨(0, k, h), rfl, rfl, rfl, rfl, .start hw hk, fun j hj => HQ _ _ ⟨rfl, hj⟩, fun _ _ h => h.elim⟩
def Qkf (a : Option Addr) (b : List (Sh.T voteSh)) (c : Nat) := Value.slice a (List.length b) c
def Qkg (a : List (Sh.T voteSh)) (b : Int) := Prod.fst (mrkL (Sh.mkd voteSh) a b)
def Qkh (a : Nat × Int × AHeap × List (Sh.T voteSh)) := Prod.fst (Prod.snd (Prod.snd a))
def Qki (a : List (Sh.T voteSh)) (b : Int) := Prod.snd (mrkL (Sh.mkd voteSh) a b)
def Qkj (a : Nat × Int × AHeap × List (Sh.T voteSh)) := Prod.fst (Prod.snd a)
def Qkk (a : Nat × Int × AHeap × List (Sh.T voteSh)) := (↑(Prod.fst a) : Int)
def Qkl (a : Option Addr) (b c : Nat) (d e : Nat × Int × AHeap × List (Sh.T voteSh)) (f : List (Sh.T voteSh)) (g : Prop) := Qin (Qiv a b c 5) (Qkk d) (Qkk e) (List.length f) g
def Qkm (a : AHeap) (b : List (Sh.T voteSh)) (c : Int) (d : Option Addr) (e : List (Sh.T voteSh)) (f : Nat) (g : List Nat) (h i j k : Nat × Int × AHeap × List (Sh.T voteSh)) := MkI voteSh a b c (Qkf d e f) g (Prod.fst h) (Qkj i) (Qkh j) (Prod.snd (Prod.snd (Prod.snd k)))
theorem mkVoteS (h : AHeap) (hw : h.wf) (xs : List (Sh.T voteSh)) (v : Value) (ids : List Nat) (so : So h voteSh xs v ids) (nd : ids.Nodup) (k : Int) (hk : 0 ≤ k) (hb : (mrkL (Sh.mkd voteSh) xs k).2 ≤ 1000000000000000) :
    ∃ w h', ACall Tryz.prog 44 [v, .int .i64 k] h w h' ∧ w = .int .i64 (mrkL (Sh.mkd voteSh) xs k).2 ∧ h'.wf ∧ Out ids h h' ∧ So h' voteSh (mrkL (Sh.mkd voteSh) xs k).1 v ids := by
  have hn : (xs.length : Int) ≤ 1000000000000000 := by have := mrkL_cn (Sh.mkd_cn voteSh) xs k; have := len_le_sum (c := Sh.cn voteSh) (xs := xs) (fun x => by simp only [Sh.cn]; omega); omega
  obtain ⟨a, c, rfl⟩ := so.sl.isSlice
  refine acall_q fun Q HQ => ?_
  refine acall_vc (fun _ => false) (fun _ => []) (fun _ => mkLp voteSh h xs k (.slice a xs.length c) ids) mixed Tryz.func44 rfl rfl rfl (Nat.le_of_ble_eq_true rfl) ?_ ?_
  · (refine vc_mp (by kernel_rfl : (Qie (∀ (i : Nat × Int × AHeap × List (Sh.T voteSh)), Qkm h xs k a xs c ids i i i i → bs (decide (Qkk i < (↑(List.length xs) : Int))) (∃ (l r : Nat), Qkl a l r i i xs (∃ (h' : AHeap), Qio (Qkh i) l r (Qkk i) 0 [Qig (Qkj i)] h' (∃ (l r : Nat), Qkl a l r i i xs (∃ (h'_1 : AHeap), Qio h' l r (Qkk i) 1 [Qig (Qip (Qkj i))] h'_1 (∃ (l r : Nat), Qkl a l r i i xs (∃ (h' : AHeap), Qio h'_1 l r (Qkk i) 2 (Qjt (Qkj i)) h' (∃ (x : ByteArray) (h'_2 : AHeap), Qjf (Qjt (Qip (Qkj i))) h' x h'_2 ∧ (∃ (l r : Nat), Qkl a l r i i xs (∃ (h' : AHeap), Qio h'_2 l r (Qkk i) 3 (Qje x) h' (∃ (l r : Nat), Qkl a l r i i xs (∃ (h'_3 : AHeap), Qio h' l r (Qkk i) 4 (Qjt (Qjq (Qkj i))) h'_3 (∃ (j : Nat × Int × AHeap × List (Sh.T voteSh)), Qiq (Qkf a xs c) (Qkf a xs c) (Qjq (Qjq (Qip (Qkj i)))) (Qkj j) (Qkk i) (Qkk j) (Qkh j) h'_3 (Qkm h xs k a xs c ids j j j j) (List.length xs) (Prod.fst j) (List.length xs) (Prod.fst i) (∀ (k_1 : AHeap), Qis k_1 ids h k_1 (So k_1 voteSh (Qkg xs k) (Qkf a xs c) ids) → Qis k_1 ids h k_1 (So k_1 voteSh (Qkg xs k) (Qkf a xs c) ids)) (∀ (v : Value) (h : AHeap), Qir))))))))))))) (∃ (j : AHeap), Qih (Qkj i) (Qki xs k) j (Qkh i) j ids h j (So j voteSh (Qkg xs k) (Qkf a xs c) ids))) (Qji (Qji Qif))) = _) ?_; delta Qid Qie Qif Qig Qih Qin Qio Qip Qiq Qir Qis Qiv Qje Qjf Qji Qjq Qjt Qkf Qkg Qkh Qki Qkj Qkk Qkl Qkm)
    simp only [true_and, and_true]
    rintro ⟨i, ki, g, ys⟩ I
    dsimp only at *
    have hi := I.hi
    have k0 := I.k0
    refine bs_d (fun hlt => ?_) (fun hge => ?_)
    · obtain ⟨x, hx⟩ : ∃ y : Sh.T voteSh, xs[i]? = some y := ⟨_, List.getElem?_eq_getElem (by omega)⟩
      have bd : ki + 1 + 1 + 1 + 1 + 1 ≤ 1000000000000000 := I.bound hx hb
      obtain ⟨l, r, n', c', rows, cs, js, e, hin, E0, ro, hlj, ndj, hsub, fin⟩ := I.so.elem nd I.wf (I.at hx)
      cases e
      obtain ⟨rfl, rfl⟩ := ro_vote.1 ro
      obtain ⟨g1, w1, E1, o1⟩ := E0.wr 0 [.int .i64 (ki)] [.int .i64 (ki), .int .i64 x.2.1, .int .i64 x.2.2.1, .string x.2.2.2.1, .int .i64 x.2.2.2.2] (Nat.le_of_ble_eq_true rfl) rfl
      refine ⟨l, r, rfl, Int.natCast_nonneg _, hlt, g1, w1, ?_⟩
      obtain ⟨g2, w2, E2, o2⟩ := E1.wr 1 [.int .i64 (ki + 1)] [.int .i64 (ki), .int .i64 (ki + 1), .int .i64 x.2.2.1, .string x.2.2.2.1, .int .i64 x.2.2.2.2] (Nat.le_of_ble_eq_true rfl) rfl
      try rw [wrap_i64 (n := ki + 1) (by omega)]
      refine ⟨l, r, rfl, Int.natCast_nonneg _, hlt, g2, w2, ?_⟩
      obtain ⟨g3, w3, E3, o3⟩ := E2.wr 2 [.int .i64 (ki + 1 + 1)] [.int .i64 (ki), .int .i64 (ki + 1), .int .i64 (ki + 1 + 1), .string x.2.2.2.1, .int .i64 x.2.2.2.2] (Nat.le_of_ble_eq_true rfl) rfl
      try rw [wrap_i64 (n := ki + 1 + 1) (by omega)]
      refine ⟨l, r, rfl, Int.natCast_nonneg _, hlt, g3, w3, ?_⟩
      obtain ⟨_, t1, A1, lt1, wt1, rfl⟩ := mt_spec (ki + 1 + 1 + 1) _ E3.wf (by omega)
      have E3 := E3.le lt1 wt1
      obtain ⟨g4, w4, E4, o4⟩ := E3.wr 3 [.string (mtext (ki + 1 + 1 + 1))] [.int .i64 (ki), .int .i64 (ki + 1), .int .i64 (ki + 1 + 1), .string (mtext (ki + 1 + 1 + 1)), .int .i64 x.2.2.2.2] (Nat.le_of_ble_eq_true rfl) rfl
      try rw [wrap_i64 (n := ki + 1 + 1 + 1) (by omega)]
      refine ⟨_, _, A1, l, r, rfl, Int.natCast_nonneg _, hlt, g4, w4, ?_⟩
      obtain ⟨g5, w5, E5, o5⟩ := E4.wr 4 [.int .i64 (ki + 1 + 1 + 1 + 1)] [.int .i64 (ki), .int .i64 (ki + 1), .int .i64 (ki + 1 + 1), .string (mtext (ki + 1 + 1 + 1)), .int .i64 (ki + 1 + 1 + 1 + 1)] (Nat.le_of_ble_eq_true rfl) rfl
      try rw [wrap_i64 (n := ki + 1 + 1 + 1 + 1) (by omega)]
      refine ⟨l, r, rfl, Int.natCast_nonneg _, hlt, g5, w5, ?_⟩
      try rw [wrap_i64 (n := ki + 1 + 1 + 1 + 1 + 1) (by omega)]
      have so2 := fin _ _ (Sh.mkd voteSh x ki).1 E5 (ro_vote.2 ⟨rfl, rfl⟩)
      exact ⟨(i + 1, (Sh.mkd voteSh x ki).2, _, ys.set i (Sh.mkd voteSh x ki).1), rfl, by rw [wrap_i64 (by omega)] <;> rfl, rfl, I.step hx E5.wf (E5.out.widen hsub) so2, by dsimp only; omega, fun _ h => h, fun _ _ h => h⟩
    · obtain ⟨e1, e2⟩ := I.finish (by omega)
      exact ⟨g, by rw [e1], rfl, I.wf, I.out, e2⟩
  · (refine vc_mp (by kernel_rfl : (∃ (i : Nat × Int × AHeap × List (Sh.T voteSh)), Qiw (Qkf a xs c) (Qkf a xs c) k (Qkj i) (Qkk i) (Qkh i) h (Qkm h xs k a xs c ids i i i i) (∀ (j : AHeap), Qis j ids h j (So j voteSh (Qkg xs k) (Qkf a xs c) ids) → Q (Qig (Qki xs k)) j) (∀ (v : Value) (h : AHeap), False → Q v h)) = _) ?_; delta Qig Qis Qiw Qkf Qkg Qkh Qki Qkj Qkk Qkm)
    exact ⟨(0, k, h, xs), rfl, rfl, rfl, rfl, .start hw hk so, fun j hj => HQ _ _ ⟨rfl, hj⟩, fun _ _ h => h.elim⟩
def Qkn (a : Option Addr) (b c : Nat) (d e : Nat × Int × AHeap) (f : List (Sh.T voteSh)) (g : Prop) := Qin (Qiv a b c 5) (Qj1 d) (Qj1 e) (List.length f) g
theorem hdVoteS (h : AHeap) (hw : h.wf) (xs : List (Sh.T voteSh)) (v : Value) (k : Int) (hx : Sl h voteSh (mrkL (Sh.mkd voteSh) xs k).1 v) (hk : 0 ≤ k) (hb : (mrkL (Sh.mkd voteSh) xs k).2 ≤ 1000000000000000) :
    ∃ w h', ACall Tryz.prog 114 [v, .int .i64 k] h w h' ∧ w = .int .i64 (mrkL (Sh.mkd voteSh) xs k).2 ∧ h'.wf ∧ h.Le h' := by
  have hn : (xs.length : Int) ≤ 1000000000000000 := by have := mrkL_cn (Sh.mkd_cn voteSh) xs k; have := len_le_sum (c := Sh.cn voteSh) (xs := xs) (fun x => by simp only [Sh.cn]; omega); omega
  obtain ⟨a, c, rfl⟩ := hx.isSlice
  rw [mrkL_len] at hx ⊢
  refine acall_q fun Q HQ => ?_
  refine acall_vc (fun _ => false) (fun r => match r with | 13 => [(0, 0, []), (1, 0, []), (2, 0, []), (3, 0, []), (5, 0, []), (4, 1, []), (6, 3, [4]), (7, 0, [])] | _ => []) (fun _ => hdLp voteSh h xs k (.slice a xs.length c)) mixed Tryz.func114 rfl rfl rfl (Nat.le_of_ble_eq_true rfl) ?_ ?_
  · (refine vc_mp (by kernel_rfl : (Qie (∀ (i : Nat × Int × AHeap), HdI voteSh h xs k (Prod.fst i) (Qiy i) (Qix i) → bs (decide (Qj1 i < (↑(List.length xs) : Int))) (∃ (l r : Nat), Qkn a l r i i xs (∃ (x : Int), Qj3 i l r i x (decide (x = Qiy i)) (∃ (l r : Nat), Qkn a l r i i xs (∃ (x : Int), Qjw i l r i 1 x (decide (x = Qj6 i)) (∃ (l r : Nat), Qkn a l r i i xs (∃ (x : Int), Qjw i l r i 2 x (decide (x = Qjq (Qiy i))) (∃ (l r : Nat), Qkn a l r i i xs (∃ (x : ByteArray), Qj2 i l r i 3 (Qje x) (∃ (x_1 : ByteArray) (h' : AHeap), Qjg (Qjt (Qj6 i)) i x_1 h' (∃ (x_2 : ByteArray), Qjh h' l r i 3 (Qje x_2) (Value.string x_2 = Value.string x)) (decide (x = x_1)) (∃ (l r : Nat), Qkn a l r i i xs (∃ (x : Int), Qjh h' l r i 4 [Qig x] (bs (not (decide (x = Qjq (Qjq (Qiy i))))) False (∃ (j : Nat × Int × AHeap), Qj4 (Qkf a xs c) (Qkf a xs c) (Qjq (Qjq (Qj6 i))) j i j j h' (HdI voteSh h xs k (Prod.fst j) (Qiy j) (Qix j)) (List.length xs) j (List.length xs) i (∀ (k : AHeap), Qj5 k h k → Qj5 k h k) (∀ (v : Value) (h : AHeap), Qir)))))))))))))) (∃ (j : AHeap), Qiz i (Qki xs k) j i j h j)) (Qju (Qju (Qid Qif ∧ True)))) = _) ?_; delta Qid Qie Qif Qig Qin Qip Qir Qiv Qix Qiy Qiz Qj0 Qj1 Qj2 Qj3 Qj4 Qj5 Qj6 Qje Qjf Qjg Qjh Qjq Qjt Qju Qjw Qkf Qki Qkn)
    simp only [true_and, and_true]
    rintro ⟨i, ki, g⟩ I
    dsimp only at *
    have hi := I.hi
    have k0 := I.k0
    refine bs_d (fun hlt => ?_) (fun hge => ?_)
    · obtain ⟨x, hat⟩ : ∃ y : Sh.T voteSh, xs[i]? = some y := ⟨_, List.getElem?_eq_getElem (by omega)⟩
      have bd : ki + 1 + 1 + 1 + 1 + 1 ≤ 1000000000000000 := I.bound hat hb
      obtain ⟨l, r, row, ha, _, hrd, hld⟩ := (hx.mono I.le).elem (I.at hat)
      obtain rfl := rd_vote.1 hrd
      have hld : g.ld l (r + i) 0 5 = some [.int .i64 (ki), .int .i64 (ki + 1), .int .i64 (ki + 1 + 1), .string (mtext (ki + 1 + 1 + 1)), .int .i64 (ki + 1 + 1 + 1 + 1)] := hld
      refine ⟨l, r, ha, Int.natCast_nonneg _, hlt, _, ld_cells (k := 0) (m := 1) hld (Nat.le_of_ble_eq_true rfl), bs_dn (fun e => absurd rfl e) (fun _ => ?_)⟩
      try rw [wrap_i64 (n := ki + 1) (by omega)]
      refine ⟨l, r, ha, Int.natCast_nonneg _, hlt, _, ld_cells (k := 1) (m := 1) hld (Nat.le_of_ble_eq_true rfl), bs_dn (fun e => absurd rfl e) (fun _ => ?_)⟩
      try rw [wrap_i64 (n := ki + 1 + 1) (by omega)]
      refine ⟨l, r, ha, Int.natCast_nonneg _, hlt, _, ld_cells (k := 2) (m := 1) hld (Nat.le_of_ble_eq_true rfl), bs_dn (fun e => absurd rfl e) (fun _ => ?_)⟩
      try rw [wrap_i64 (n := ki + 1 + 1 + 1) (by omega)]
      obtain ⟨_, t1, A1, lt1, wt1, rfl⟩ := mt_spec (ki + 1 + 1 + 1) _ I.wf (by omega)
      refine ⟨l, r, ha, Int.natCast_nonneg _, hlt, _, ld_cells (k := 3) (m := 1) hld (Nat.le_of_ble_eq_true rfl), _, _, A1, ⟨_, lt1.ld (ld_cells (k := 3) (m := 1) hld (Nat.le_of_ble_eq_true rfl)), rfl⟩, bs_dn (fun e => absurd rfl e) (fun _ => ?_)⟩
      have hld := lt1.ld hld
      try rw [wrap_i64 (n := ki + 1 + 1 + 1 + 1) (by omega)]
      refine ⟨l, r, ha, Int.natCast_nonneg _, hlt, _, ld_cells (k := 4) (m := 1) hld (Nat.le_of_ble_eq_true rfl), bs_dn (fun e => absurd rfl e) (fun _ => ?_)⟩
      try rw [wrap_i64 (n := ki + 1 + 1 + 1 + 1 + 1) (by omega)]
      exact ⟨(i + 1, (Sh.mkd voteSh x ki).2, _), rfl, by rw [wrap_i64 (by omega)] <;> rfl, rfl, I.step hat wt1 lt1, by dsimp only; omega, fun _ h => h, fun _ _ h => h⟩
    · exact ⟨g, by rw [I.finish (by omega)], rfl, I.wf, I.le⟩
  · (refine vc_mp (by kernel_rfl : (∃ (i : Nat × Int × AHeap), Qiw (Qkf a xs c) (Qkf a xs c) k (Qiy i) (Qj1 i) (Qix i) h (HdI voteSh h xs k (Prod.fst i) (Qiy i) (Qix i)) (∀ (j : AHeap), Qj5 j h j → Q (Qig (Qki xs k)) j) (∀ (v : Value) (h : AHeap), False → Q v h)) = _) ?_; delta Qig Qiw Qix Qiy Qj1 Qj5 Qkf Qki)
    exact ⟨(0, k, h), rfl, rfl, rfl, rfl, .start hw hk, fun j hj => HQ _ _ ⟨rfl, hj⟩, fun _ _ h => h.elim⟩
def Qko (a : FuncId) (b : Value) (c : Int) (d : AHeap) (e : Int) (f : AHeap) (g : Prop) := ACall Tryz.prog a [b, Qig c] d (Qig e) f ∧ g
def Qkp (a : Sh.T Sh.int × Sh.T Sh.int × Sh.T Sh.int × Sh.T Sh.int × Sh.T Sh.str × List (Sh.T changeSh)) := Prod.snd (Prod.snd (Prod.snd (Prod.snd (Prod.snd a))))
theorem mkSay (h : AHeap) (hw : h.wf) (x : saySh.T) (v1 : Value) (j1 : List Nat) (s1 : So h changeSh x.2.2.2.2.2 v1 j1) (nd : (j1).Nodup) (k : Int) (hk : 0 ≤ k) (hb : (saySh.mkv x k).2 ≤ 1000000000000000) :
    ∃ w h', ACall Tryz.prog 26 [.agg #[.int .i64 x.1, .int .i64 x.2.1, .int .i64 x.2.2.1, .int .i64 x.2.2.2.1, .string x.2.2.2.2.1, v1], .int .i64 k] h w h' ∧ w = .int .i64 (saySh.mkv x k).2 ∧ h'.wf ∧ Out (j1) h h' ∧ So h' changeSh (saySh.mkv x k).1.2.2.2.2.2 v1 j1 := by
  obtain ⟨a1, c1, rfl⟩ := s1.sl.isSlice
  have bd : (mrkL (Sh.mkd changeSh) x.2.2.2.2.2 k).2 ≤ 1000000000000000 := hb
  have q1 := Sh.mrkL_le changeSh x.2.2.2.2.2 k
  refine acall_q fun Q HQ => ?_
  obtain ⟨_, t1, A1, rfl, wt1, ot1, s1⟩ := mkChangeS h hw x.2.2.2.2.2 _ _ s1 nd k (by omega) (by omega)
  refine acall_vc (fun _ => false) (fun _ => []) (fun _ => .none) mixed Tryz.func26 rfl rfl rfl (Nat.le_of_ble_eq_true rfl) (by refine vc_mp (by kernel_rfl : (True ∧ True ∧ True ∧ True) = _) ?_; simp only [and_self]) ?_
  (refine vc_mp (by kernel_rfl : (∃ (x_1 : Int) (h' : AHeap), Qko 45 (Qjx a1 (Qkp x) c1) k h x_1 h' (Q (Qig x_1) h')) = _) ?_; delta Qig Qjx Qko Qkp)
  refine ⟨_, _, A1, ?_⟩
  exact HQ _ _ ⟨rfl, wt1, (ot1.widen (by intro z hz; (try simp only [List.mem_append, List.append_nil, List.nil_append, List.not_mem_nil, or_false, false_or] at hz ⊢); first | simp [hz] | grind)), s1⟩
def Qkq (a b c : Prop) := True ∧ a ∧ Qid Qif ∧ b ∧ c
def Qkr := Qig (-1)
theorem hdSay (h : AHeap) (hw : h.wf) (x : saySh.T) (v1 : Value) (k : Int) (rd : saySh.rd h (saySh.mkv x k).1 [.int .i64 x.1, .int .i64 x.2.1, .int .i64 x.2.2.1, .int .i64 x.2.2.2.1, .string x.2.2.2.2.1, v1]) (hk : 0 ≤ k) (hb : (saySh.mkv x k).2 ≤ 1000000000000000) :
    ∃ w h', ACall Tryz.prog 115 [.agg #[.int .i64 x.1, .int .i64 x.2.1, .int .i64 x.2.2.1, .int .i64 x.2.2.2.1, .string x.2.2.2.2.1, v1], .int .i64 k] h w h' ∧ w = .int .i64 (saySh.mkv x k).2 ∧ h'.wf ∧ h.Le h' := by
  obtain ⟨y1, ec, s1⟩ := rd_say.1 rd
  cases ec
  have bd : (mrkL (Sh.mkd changeSh) x.2.2.2.2.2 k).2 ≤ 1000000000000000 := hb
  have q1 := Sh.mrkL_le changeSh x.2.2.2.2.2 k
  have s1 : Sl h changeSh (mrkL (Sh.mkd changeSh) x.2.2.2.2.2 k).1 v1 := s1
  obtain ⟨a1, c1, rfl⟩ := s1.isSlice
  refine acall_q fun Q HQ => ?_
  obtain ⟨_, t1, A1, rfl, wt1, lt1⟩ := hdChangeS h hw x.2.2.2.2.2 _ k s1 (by omega) (by omega)
  have s1 := s1.mono lt1
  refine acall_vc (fun _ => false) (fun _ => []) (fun _ => .none) mixed Tryz.func115 rfl rfl rfl (Nat.le_of_ble_eq_true rfl) (by (refine vc_mp (by kernel_rfl : (Qkq True True True) = _) ?_; delta Qid Qif Qkq); simp only [and_self]) ?_
  (refine vc_mp (by kernel_rfl : (∃ (x_1 : Int) (h' : AHeap), Qko 48 (Qjx a1 (Qjy (Qkp x) k) c1) k h x_1 h' (bs (decide (x_1 < 0)) (Q Qkr h') (Q (Qig x_1) h'))) = _) ?_; delta Qig Qjx Qjy Qko Qkp Qkr)
  refine ⟨_, _, A1, bs_d (fun e => absurd e (by omega)) (fun _ => ?_)⟩
  exact HQ _ _ ⟨rfl, wt1, lt1⟩
def Qks (a : Option Addr) (b : Sh.T Sh.int × Sh.T Sh.int × Sh.T Sh.bool × Sh.T Sh.int × Sh.T (Sh.sl voteSh) × Sh.T (Sh.sl changeSh) × Sh.T saySh × List (Sh.T Sh.str)) (c : Nat) := Qj7 a (Prod.snd (Prod.snd (Prod.snd (Prod.snd (Prod.snd (Prod.snd (Prod.snd b))))))) c
def Qkt (a : Option Addr) (b : Sh.T Sh.int × Sh.T Sh.int × Sh.T Sh.bool × Sh.T Sh.int × Sh.T (Sh.sl voteSh) × Sh.T (Sh.sl changeSh) × (Sh.T Sh.int × Sh.T Sh.int × Sh.T Sh.int × Sh.T Sh.int × Sh.T Sh.str × List (Sh.T changeSh)) × Sh.T (Sh.sl Sh.str)) (c : Nat) := Qjx a (Qkp (Prod.fst (Prod.snd (Prod.snd (Prod.snd (Prod.snd (Prod.snd (Prod.snd b)))))))) c
def Qku (a : Sh.T Sh.int × Sh.T Sh.int × Sh.T Sh.bool × Sh.T Sh.int × Sh.T (Sh.sl voteSh) × Sh.T (Sh.sl changeSh) × (Sh.T Sh.int × Sh.T Sh.int × Sh.T Sh.int × Sh.T Sh.int × ByteArray × Sh.T (Sh.sl changeSh)) × Sh.T (Sh.sl Sh.str)) := Value.string (Prod.fst (Prod.snd (Prod.snd (Prod.snd (Prod.snd (Prod.fst (Prod.snd (Prod.snd (Prod.snd (Prod.snd (Prod.snd (Prod.snd a))))))))))))
def Qkv (a : Sh.T Sh.int × Sh.T Sh.int × Sh.T Sh.bool × Sh.T Sh.int × Sh.T (Sh.sl voteSh) × Sh.T (Sh.sl changeSh) × (Sh.T Sh.int × Sh.T Sh.int × Sh.T Sh.int × Int × Sh.T (Sh.pair Sh.str (Sh.sl changeSh))) × Sh.T (Sh.sl Sh.str)) := Qig (Prod.fst (Prod.snd (Prod.snd (Prod.snd (Prod.fst (Prod.snd (Prod.snd (Prod.snd (Prod.snd (Prod.snd (Prod.snd a)))))))))))
def Qkw (a : Sh.T Sh.int × Sh.T Sh.int × Sh.T Sh.bool × Sh.T Sh.int × Sh.T (Sh.sl voteSh) × Sh.T (Sh.sl changeSh) × (Sh.T Sh.int × Sh.T Sh.int × Int × Sh.T (Sh.pair Sh.int (Sh.pair Sh.str (Sh.sl changeSh)))) × Sh.T (Sh.sl Sh.str)) := Qig (Prod.fst (Prod.snd (Prod.snd (Prod.fst (Prod.snd (Prod.snd (Prod.snd (Prod.snd (Prod.snd (Prod.snd a))))))))))
def Qkx (a : Sh.T Sh.int × Sh.T Sh.int × Sh.T Sh.bool × Sh.T Sh.int × Sh.T (Sh.sl voteSh) × Sh.T (Sh.sl changeSh) × (Sh.T Sh.int × Int × Sh.T (Sh.pair Sh.int (Sh.pair Sh.int (Sh.pair Sh.str (Sh.sl changeSh))))) × Sh.T (Sh.sl Sh.str)) := Qig (Prod.fst (Prod.snd (Prod.fst (Prod.snd (Prod.snd (Prod.snd (Prod.snd (Prod.snd (Prod.snd a)))))))))
def Qky (a : Sh.T Sh.int × Sh.T Sh.int × Sh.T Sh.bool × Sh.T Sh.int × Sh.T (Sh.sl voteSh) × Sh.T (Sh.sl changeSh) × (Int × Sh.T (Sh.pair Sh.int (Sh.pair Sh.int (Sh.pair Sh.int (Sh.pair Sh.str (Sh.sl changeSh)))))) × Sh.T (Sh.sl Sh.str)) := Qig (Prod.fst (Prod.fst (Prod.snd (Prod.snd (Prod.snd (Prod.snd (Prod.snd (Prod.snd a))))))))
def Qkz (a : Sh.T Sh.int × Sh.T Sh.int × Sh.T Sh.bool × Sh.T Sh.int × Sh.T (Sh.sl voteSh) × List (Sh.T changeSh) × Sh.T (Sh.pair saySh (Sh.sl Sh.str))) := Prod.fst (Prod.snd (Prod.snd (Prod.snd (Prod.snd (Prod.snd a)))))
def Ql0 (a : Sh.T Sh.int × Sh.T Sh.int × Sh.T Sh.bool × Sh.T Sh.int × List (Sh.T voteSh) × Sh.T (Sh.pair (Sh.sl changeSh) (Sh.pair saySh (Sh.sl Sh.str)))) := Prod.fst (Prod.snd (Prod.snd (Prod.snd (Prod.snd a))))
theorem mkReplica (h : AHeap) (hw : h.wf) (x : replicaSh.T) (v1 v2 v3 v4 : Value) (j1 j2 j3 j4 : List Nat) (s1 : So h voteSh x.2.2.2.2.1 v1 j1) (s2 : So h changeSh x.2.2.2.2.2.1 v2 j2) (s3 : So h changeSh x.2.2.2.2.2.2.1.2.2.2.2.2 v3 j3) (s4 : So h Sh.str x.2.2.2.2.2.2.2 v4 j4) (nd : (j1 ++ (j2 ++ (j3 ++ j4))).Nodup) (k : Int) (hk : 0 ≤ k) (hb : (replicaSh.mkv x k).2 ≤ 1000000000000000) :
    ∃ w h', ACall Tryz.prog 13 [.agg #[.int .i64 x.1, .int .i64 x.2.1, .bool x.2.2.1, .int .i64 x.2.2.2.1, v1, v2, .int .i64 x.2.2.2.2.2.2.1.1, .int .i64 x.2.2.2.2.2.2.1.2.1, .int .i64 x.2.2.2.2.2.2.1.2.2.1, .int .i64 x.2.2.2.2.2.2.1.2.2.2.1, .string x.2.2.2.2.2.2.1.2.2.2.2.1, v3, v4], .int .i64 k] h w h' ∧ w = .int .i64 (replicaSh.mkv x k).2 ∧ h'.wf ∧ Out (j1 ++ (j2 ++ (j3 ++ j4))) h h' ∧ So h' voteSh (replicaSh.mkv x k).1.2.2.2.2.1 v1 j1 ∧ So h' changeSh (replicaSh.mkv x k).1.2.2.2.2.2.1 v2 j2 ∧ So h' changeSh (replicaSh.mkv x k).1.2.2.2.2.2.2.1.2.2.2.2.2 v3 j3 ∧ So h' Sh.str (replicaSh.mkv x k).1.2.2.2.2.2.2.2 v4 j4 := by
  obtain ⟨a1, c1, rfl⟩ := s1.sl.isSlice
  obtain ⟨a2, c2, rfl⟩ := s2.sl.isSlice
  obtain ⟨a3, c3, rfl⟩ := s3.sl.isSlice
  obtain ⟨a4, c4, rfl⟩ := s4.sl.isSlice
  simp only [List.nodup_append, List.mem_append] at nd
  have bd : (mrkL (Sh.mkd Sh.str) x.2.2.2.2.2.2.2 (saySh.mkv x.2.2.2.2.2.2.1 (mrkL (Sh.mkd changeSh) x.2.2.2.2.2.1 (mrkL (Sh.mkd voteSh) x.2.2.2.2.1 k).2).2).2).2 ≤ 1000000000000000 := hb
  have q1 := Sh.mrkL_le voteSh x.2.2.2.2.1 k
  have q2 := Sh.mrkL_le changeSh x.2.2.2.2.2.1 (mrkL (Sh.mkd voteSh) x.2.2.2.2.1 k).2
  have q3 := Sh.mkv_le saySh x.2.2.2.2.2.2.1 (mrkL (Sh.mkd changeSh) x.2.2.2.2.2.1 (mrkL (Sh.mkd voteSh) x.2.2.2.2.1 k).2).2
  have q4 := Sh.mrkL_le Sh.str x.2.2.2.2.2.2.2 (saySh.mkv x.2.2.2.2.2.2.1 (mrkL (Sh.mkd changeSh) x.2.2.2.2.2.1 (mrkL (Sh.mkd voteSh) x.2.2.2.2.1 k).2).2).2
  refine acall_q fun Q HQ => ?_
  obtain ⟨_, t1, A1, rfl, wt1, ot1, s1⟩ := mkVoteS h hw x.2.2.2.2.1 _ _ s1 nd.1 k (by omega) (by omega)
  have s2 := s2.out ot1 (by intro z hz hz2; (try simp only [List.mem_append, List.append_nil, List.nil_append, List.not_mem_nil, or_false, false_or] at hz2); first | exact (show ∀ z ∈ j2, z ∉ j1 from (by intro z hz hz2; have := nd.2.2; first | exact this z (by simp [hz]) z (by simp [hz2]) rfl | exact this z (by simp [hz2]) z (by simp [hz]) rfl)) z hz hz2 | grind)
  have s3 := s3.out ot1 (by intro z hz hz2; (try simp only [List.mem_append, List.append_nil, List.nil_append, List.not_mem_nil, or_false, false_or] at hz2); first | exact (show ∀ z ∈ j3, z ∉ j1 from (by intro z hz hz2; have := nd.2.2; first | exact this z (by simp [hz]) z (by simp [hz2]) rfl | exact this z (by simp [hz2]) z (by simp [hz]) rfl)) z hz hz2 | grind)
  have s4 := s4.out ot1 (by intro z hz hz2; (try simp only [List.mem_append, List.append_nil, List.nil_append, List.not_mem_nil, or_false, false_or] at hz2); first | exact (show ∀ z ∈ j4, z ∉ j1 from (by intro z hz hz2; have := nd.2.2; first | exact this z (by simp [hz]) z (by simp [hz2]) rfl | exact this z (by simp [hz2]) z (by simp [hz]) rfl)) z hz hz2 | grind)
  obtain ⟨_, t2, A2, rfl, wt2, ot2, s2⟩ := mkChangeS t1 wt1 x.2.2.2.2.2.1 _ _ s2 nd.2.1.1 (mrkL (Sh.mkd voteSh) x.2.2.2.2.1 k).2 (by omega) (by omega)
  have s1 := s1.out ot2 (by intro z hz hz2; (try simp only [List.mem_append, List.append_nil, List.nil_append, List.not_mem_nil, or_false, false_or] at hz2); first | exact (show ∀ z ∈ j1, z ∉ j2 from (by intro z hz hz2; have := nd.2.2; first | exact this z (by simp [hz]) z (by simp [hz2]) rfl | exact this z (by simp [hz2]) z (by simp [hz]) rfl)) z hz hz2 | grind)
  have s3 := s3.out ot2 (by intro z hz hz2; (try simp only [List.mem_append, List.append_nil, List.nil_append, List.not_mem_nil, or_false, false_or] at hz2); first | exact (show ∀ z ∈ j3, z ∉ j2 from (by intro z hz hz2; have := nd.2.1.2.2; first | exact this z (by simp [hz]) z (by simp [hz2]) rfl | exact this z (by simp [hz2]) z (by simp [hz]) rfl)) z hz hz2 | grind)
  have s4 := s4.out ot2 (by intro z hz hz2; (try simp only [List.mem_append, List.append_nil, List.nil_append, List.not_mem_nil, or_false, false_or] at hz2); first | exact (show ∀ z ∈ j4, z ∉ j2 from (by intro z hz hz2; have := nd.2.1.2.2; first | exact this z (by simp [hz]) z (by simp [hz2]) rfl | exact this z (by simp [hz2]) z (by simp [hz]) rfl)) z hz hz2 | grind)
  obtain ⟨_, t3, A3, rfl, wt3, ot3, s3⟩ := mkSay t2 wt2 x.2.2.2.2.2.2.1 _ j3 s3 (by (try simp only [List.nodup_append, List.mem_append]); first | exact nd | exact nd.1 | exact nd.2.1 | exact nd.2.1.1 | exact nd.2.1.2.1 | exact nd.2.1.2.1.1 | exact ⟨nd.1, nd.2.1.1, fun a ha b hb => nd.2.2 a ha b (.inl hb)⟩ | grind) (mrkL (Sh.mkd changeSh) x.2.2.2.2.2.1 (mrkL (Sh.mkd voteSh) x.2.2.2.2.1 k).2).2 (by omega) (by omega)
  have s1 := s1.out ot3 (by intro z hz hz2; (try simp only [List.mem_append, List.append_nil, List.nil_append, List.not_mem_nil, or_false, false_or] at hz2); first | exact (show ∀ z ∈ j1, z ∉ j3 from (by intro z hz hz2; have := nd.2.2; first | exact this z (by simp [hz]) z (by simp [hz2]) rfl | exact this z (by simp [hz2]) z (by simp [hz]) rfl)) z hz hz2 | grind)
  have s2 := s2.out ot3 (by intro z hz hz2; (try simp only [List.mem_append, List.append_nil, List.nil_append, List.not_mem_nil, or_false, false_or] at hz2); first | exact (show ∀ z ∈ j2, z ∉ j3 from (by intro z hz hz2; have := nd.2.1.2.2; first | exact this z (by simp [hz]) z (by simp [hz2]) rfl | exact this z (by simp [hz2]) z (by simp [hz]) rfl)) z hz hz2 | grind)
  have s4 := s4.out ot3 (by intro z hz hz2; (try simp only [List.mem_append, List.append_nil, List.nil_append, List.not_mem_nil, or_false, false_or] at hz2); first | exact (show ∀ z ∈ j4, z ∉ j3 from (by intro z hz hz2; have := nd.2.1.2.1.2.2; first | exact this z (by simp [hz]) z (by simp [hz2]) rfl | exact this z (by simp [hz2]) z (by simp [hz]) rfl)) z hz hz2 | grind)
  obtain ⟨_, t4, A4, rfl, wt4, ot4, s4⟩ := mkStringS t3 wt3 x.2.2.2.2.2.2.2 _ _ s4 nd.2.1.2.1.2.1 (saySh.mkv x.2.2.2.2.2.2.1 (mrkL (Sh.mkd changeSh) x.2.2.2.2.2.1 (mrkL (Sh.mkd voteSh) x.2.2.2.2.1 k).2).2).2 (by omega) (by omega)
  have s1 := s1.out ot4 (by intro z hz hz2; (try simp only [List.mem_append, List.append_nil, List.nil_append, List.not_mem_nil, or_false, false_or] at hz2); first | exact (show ∀ z ∈ j1, z ∉ j4 from (by intro z hz hz2; have := nd.2.2; first | exact this z (by simp [hz]) z (by simp [hz2]) rfl | exact this z (by simp [hz2]) z (by simp [hz]) rfl)) z hz hz2 | grind)
  have s2 := s2.out ot4 (by intro z hz hz2; (try simp only [List.mem_append, List.append_nil, List.nil_append, List.not_mem_nil, or_false, false_or] at hz2); first | exact (show ∀ z ∈ j2, z ∉ j4 from (by intro z hz hz2; have := nd.2.1.2.2; first | exact this z (by simp [hz]) z (by simp [hz2]) rfl | exact this z (by simp [hz2]) z (by simp [hz]) rfl)) z hz hz2 | grind)
  have s3 := s3.out ot4 (by intro z hz hz2; (try simp only [List.mem_append, List.append_nil, List.nil_append, List.not_mem_nil, or_false, false_or] at hz2); first | exact (show ∀ z ∈ j3, z ∉ j4 from (by intro z hz hz2; have := nd.2.1.2.1.2.2; first | exact this z (by simp [hz]) z (by simp [hz2]) rfl | exact this z (by simp [hz2]) z (by simp [hz]) rfl)) z hz hz2 | grind)
  refine acall_vc (fun _ => false) (fun _ => []) (fun _ => .none) mixed Tryz.func13 rfl rfl rfl (Nat.le_of_ble_eq_true rfl) (by (refine vc_mp (by kernel_rfl : (Qji (Qid True)) = _) ?_; delta Qid Qji); simp only [and_self]) ?_
  (refine vc_mp (by kernel_rfl : (∃ (x_1 : Int) (h' : AHeap), Qko 44 (Qkf a1 (Ql0 x) c1) k h x_1 h' (∃ (x_2 : Int) (h'_1 : AHeap), Qko 45 (Qjx a2 (Qkz x) c2) x_1 h' x_2 h'_1 (∃ (x_3 : Int) (h' : AHeap), Qko 26 (Value.agg (Array.mk [Qky x, Qkx x, Qkw x, Qkv x, Qku x, Qkt a3 x c3])) x_2 h'_1 x_3 h' (∃ (x_4 : Int) (h'_2 : AHeap), Qko 46 (Qks a4 x c4) x_3 h' x_4 h'_2 (Q (Qig x_4) h'_2))))) = _) ?_; delta Qig Qj7 Qjx Qkf Qko Qkp Qks Qkt Qku Qkv Qkw Qkx Qky Qkz Ql0)
  refine ⟨_, _, A1, ?_⟩
  refine ⟨_, _, A2, ?_⟩
  refine ⟨_, _, A3, ?_⟩
  refine ⟨_, _, A4, ?_⟩
  exact HQ _ _ ⟨rfl, wt4, ((ot1.widen (by intro z hz; (try simp only [List.mem_append, List.append_nil, List.nil_append, List.not_mem_nil, or_false, false_or] at hz ⊢); first | simp [hz] | grind)).trans ((ot2.widen (by intro z hz; (try simp only [List.mem_append, List.append_nil, List.nil_append, List.not_mem_nil, or_false, false_or] at hz ⊢); first | simp [hz] | grind)).trans ((ot3.widen (by intro z hz; (try simp only [List.mem_append, List.append_nil, List.nil_append, List.not_mem_nil, or_false, false_or] at hz ⊢); first | simp [hz] | grind)).trans (ot4.widen (by intro z hz; (try simp only [List.mem_append, List.append_nil, List.nil_append, List.not_mem_nil, or_false, false_or] at hz ⊢); first | simp [hz] | grind))))), s1, s2, s3, s4⟩
theorem hdReplica (h : AHeap) (hw : h.wf) (x : replicaSh.T) (v1 v2 v3 v4 : Value) (k : Int) (rd : replicaSh.rd h (replicaSh.mkv x k).1 [.int .i64 x.1, .int .i64 x.2.1, .bool x.2.2.1, .int .i64 x.2.2.2.1, v1, v2, .int .i64 x.2.2.2.2.2.2.1.1, .int .i64 x.2.2.2.2.2.2.1.2.1, .int .i64 x.2.2.2.2.2.2.1.2.2.1, .int .i64 x.2.2.2.2.2.2.1.2.2.2.1, .string x.2.2.2.2.2.2.1.2.2.2.2.1, v3, v4]) (hk : 0 ≤ k) (hb : (replicaSh.mkv x k).2 ≤ 1000000000000000) :
    ∃ w h', ACall Tryz.prog 60 [.agg #[.int .i64 x.1, .int .i64 x.2.1, .bool x.2.2.1, .int .i64 x.2.2.2.1, v1, v2, .int .i64 x.2.2.2.2.2.2.1.1, .int .i64 x.2.2.2.2.2.2.1.2.1, .int .i64 x.2.2.2.2.2.2.1.2.2.1, .int .i64 x.2.2.2.2.2.2.1.2.2.2.1, .string x.2.2.2.2.2.2.1.2.2.2.2.1, v3, v4], .int .i64 k] h w h' ∧ w = .int .i64 (replicaSh.mkv x k).2 ∧ h'.wf ∧ h.Le h' := by
  obtain ⟨y1, y2, y3, y4, ec, s1, s2, s3, s4⟩ := rd_replica.1 rd
  cases ec
  have bd : (mrkL (Sh.mkd Sh.str) x.2.2.2.2.2.2.2 (saySh.mkv x.2.2.2.2.2.2.1 (mrkL (Sh.mkd changeSh) x.2.2.2.2.2.1 (mrkL (Sh.mkd voteSh) x.2.2.2.2.1 k).2).2).2).2 ≤ 1000000000000000 := hb
  have q1 := Sh.mrkL_le voteSh x.2.2.2.2.1 k
  have s1 : Sl h voteSh (mrkL (Sh.mkd voteSh) x.2.2.2.2.1 k).1 v1 := s1
  have q2 := Sh.mrkL_le changeSh x.2.2.2.2.2.1 (mrkL (Sh.mkd voteSh) x.2.2.2.2.1 k).2
  have s2 : Sl h changeSh (mrkL (Sh.mkd changeSh) x.2.2.2.2.2.1 (mrkL (Sh.mkd voteSh) x.2.2.2.2.1 k).2).1 v2 := s2
  have q3 := Sh.mkv_le saySh x.2.2.2.2.2.2.1 (mrkL (Sh.mkd changeSh) x.2.2.2.2.2.1 (mrkL (Sh.mkd voteSh) x.2.2.2.2.1 k).2).2
  have q4 := Sh.mrkL_le Sh.str x.2.2.2.2.2.2.2 (saySh.mkv x.2.2.2.2.2.2.1 (mrkL (Sh.mkd changeSh) x.2.2.2.2.2.1 (mrkL (Sh.mkd voteSh) x.2.2.2.2.1 k).2).2).2
  have s4 : Sl h Sh.str (mrkL (Sh.mkd Sh.str) x.2.2.2.2.2.2.2 (saySh.mkv x.2.2.2.2.2.2.1 (mrkL (Sh.mkd changeSh) x.2.2.2.2.2.1 (mrkL (Sh.mkd voteSh) x.2.2.2.2.1 k).2).2).2).1 v4 := s4
  obtain ⟨a1, c1, rfl⟩ := s1.isSlice
  obtain ⟨a2, c2, rfl⟩ := s2.isSlice
  obtain ⟨a3, c3, rfl⟩ := s3.isSlice
  obtain ⟨a4, c4, rfl⟩ := s4.isSlice
  refine acall_q fun Q HQ => ?_
  obtain ⟨_, t1, A1, rfl, wt1, lt1⟩ := hdVoteS h hw x.2.2.2.2.1 _ k s1 (by omega) (by omega)
  have s1 := s1.mono lt1
  have s2 := s2.mono lt1
  have s3 := s3.mono lt1
  have s4 := s4.mono lt1
  obtain ⟨_, t2, A2, rfl, wt2, lt2⟩ := hdChangeS t1 wt1 x.2.2.2.2.2.1 _ (mrkL (Sh.mkd voteSh) x.2.2.2.2.1 k).2 s2 (by omega) (by omega)
  have s1 := s1.mono lt2
  have s2 := s2.mono lt2
  have s3 := s3.mono lt2
  have s4 := s4.mono lt2
  obtain ⟨_, t3, A3, rfl, wt3, lt3⟩ := hdSay t2 wt2 x.2.2.2.2.2.2.1 _ (mrkL (Sh.mkd changeSh) x.2.2.2.2.2.1 (mrkL (Sh.mkd voteSh) x.2.2.2.2.1 k).2).2 (rd_say.2 ⟨_, rfl, s3⟩) (by omega) (by omega)
  have s1 := s1.mono lt3
  have s2 := s2.mono lt3
  have s3 := s3.mono lt3
  have s4 := s4.mono lt3
  obtain ⟨_, t4, A4, rfl, wt4, lt4⟩ := hdStringS t3 wt3 x.2.2.2.2.2.2.2 _ (saySh.mkv x.2.2.2.2.2.2.1 (mrkL (Sh.mkd changeSh) x.2.2.2.2.2.1 (mrkL (Sh.mkd voteSh) x.2.2.2.2.1 k).2).2).2 s4 (by omega) (by omega)
  have s1 := s1.mono lt4
  have s2 := s2.mono lt4
  have s3 := s3.mono lt4
  have s4 := s4.mono lt4
  refine acall_vc (fun _ => false) (fun _ => []) (fun _ => .none) mixed Tryz.func60 rfl rfl rfl (Nat.le_of_ble_eq_true rfl) (by (refine vc_mp (by kernel_rfl : (Qkq True True (Qju (Qid Qif ∧ True ∧ True))) = _) ?_; delta Qid Qif Qju Qkq); simp only [and_self]) ?_
  (refine vc_mp (by kernel_rfl : (∃ (x_1 : Int) (h' : AHeap), Qko 114 (Qkf a1 (Qkg (Ql0 x) k) c1) k h x_1 h' (bs (decide (x_1 < 0)) (Q Qkr h') (∃ (x_2 : Int) (h'_1 : AHeap), Qko 48 (Qjx a2 (Prod.fst (mrkL (Sh.mkd changeSh) (Qkz x) (Qki (Ql0 x) k))) c2) x_1 h' x_2 h'_1 (bs (decide (x_2 < 0)) (Q Qkr h'_1) (∃ (x_3 : Int) (h' : AHeap), Qko 115 (Value.agg (Array.mk [Qky x, Qkx x, Qkw x, Qkv x, Qku x, Qkt a3 (Prod.fst (Sh.mkv replicaSh x k)) c3])) x_2 h'_1 x_3 h' (bs (decide (x_3 < 0)) (Q Qkr h') (∃ (x_4 : Int) (h'_2 : AHeap), Qko 116 (Qj7 a4 (Prod.fst (mrkL (Sh.mkd Sh.str) (Prod.snd (Prod.snd (Prod.snd (Prod.snd (Prod.snd (Prod.snd (Prod.snd x))))))) (Prod.snd (Sh.mkv saySh (Prod.fst (Prod.snd (Prod.snd (Prod.snd (Prod.snd (Prod.snd (Prod.snd x))))))) (Prod.snd (mrkL (Sh.mkd changeSh) (Qkz x) (Qki (Ql0 x) k))))))) c4) x_3 h' x_4 h'_2 (bs (decide (x_4 < 0)) (Q Qkr h'_2) (Q (Qig x_4) h'_2))))))))) = _) ?_; delta Qig Qj7 Qjx Qkf Qkg Qki Qko Qkp Qkr Qkt Qku Qkv Qkw Qkx Qky Qkz Ql0)
  refine ⟨_, _, A1, bs_d (fun e => absurd e (by omega)) (fun _ => ?_)⟩
  refine ⟨_, _, A2, bs_d (fun e => absurd e (by omega)) (fun _ => ?_)⟩
  refine ⟨_, _, A3, bs_d (fun e => absurd e (by omega)) (fun _ => ?_)⟩
  refine ⟨_, _, A4, bs_d (fun e => absurd e (by omega)) (fun _ => ?_)⟩
  exact HQ _ _ ⟨rfl, wt4, (lt1.trans (lt2.trans (lt3.trans lt4)))⟩
def Ql1 (a : (Sh.T Sh.int × Sh.T Sh.int × Sh.T Sh.bool × Int × Sh.T (Sh.pair (Sh.sl voteSh) (Sh.pair (Sh.sl changeSh) (Sh.pair saySh (Sh.sl Sh.str))))) × Sh.T (Sh.pair (Sh.sl saySh) Sh.int)) := Qig (Prod.fst (Prod.snd (Prod.snd (Prod.snd (Prod.fst a)))))
theorem mkReplicaOut (h : AHeap) (hw : h.wf) (x : replicaOutSh.T) (v1 v2 v3 v4 v5 : Value) (j1 j2 j3 j4 j5 : List Nat) (s1 : So h voteSh x.1.2.2.2.2.1 v1 j1) (s2 : So h changeSh x.1.2.2.2.2.2.1 v2 j2) (s3 : So h changeSh x.1.2.2.2.2.2.2.1.2.2.2.2.2 v3 j3) (s4 : So h Sh.str x.1.2.2.2.2.2.2.2 v4 j4) (s5 : So h saySh x.2.1 v5 j5) (nd : (j1 ++ (j2 ++ (j3 ++ (j4 ++ j5)))).Nodup) (k : Int) (hk : 0 ≤ k) (hb : (replicaOutSh.mkv x k).2 ≤ 1000000000000000) :
    ∃ w h', ACall Tryz.prog 19 [.agg #[.int .i64 x.1.1, .int .i64 x.1.2.1, .bool x.1.2.2.1, .int .i64 x.1.2.2.2.1, v1, v2, .int .i64 x.1.2.2.2.2.2.2.1.1, .int .i64 x.1.2.2.2.2.2.2.1.2.1, .int .i64 x.1.2.2.2.2.2.2.1.2.2.1, .int .i64 x.1.2.2.2.2.2.2.1.2.2.2.1, .string x.1.2.2.2.2.2.2.1.2.2.2.2.1, v3, v4, v5, .int .i64 x.2.2], .int .i64 k] h w h' ∧ w = .int .i64 (replicaOutSh.mkv x k).2 ∧ h'.wf ∧ Out (j1 ++ (j2 ++ (j3 ++ (j4 ++ j5)))) h h' ∧ So h' voteSh (replicaOutSh.mkv x k).1.1.2.2.2.2.1 v1 j1 ∧ So h' changeSh (replicaOutSh.mkv x k).1.1.2.2.2.2.2.1 v2 j2 ∧ So h' changeSh (replicaOutSh.mkv x k).1.1.2.2.2.2.2.2.1.2.2.2.2.2 v3 j3 ∧ So h' Sh.str (replicaOutSh.mkv x k).1.1.2.2.2.2.2.2.2 v4 j4 ∧ So h' saySh (replicaOutSh.mkv x k).1.2.1 v5 j5 := by
  obtain ⟨a1, c1, rfl⟩ := s1.sl.isSlice
  obtain ⟨a2, c2, rfl⟩ := s2.sl.isSlice
  obtain ⟨a3, c3, rfl⟩ := s3.sl.isSlice
  obtain ⟨a4, c4, rfl⟩ := s4.sl.isSlice
  obtain ⟨a5, c5, rfl⟩ := s5.sl.isSlice
  simp only [List.nodup_append, List.mem_append] at nd
  have bd : (mrkL (Sh.mkd saySh) x.2.1 (replicaSh.mkv x.1 k).2).2 ≤ 1000000000000000 := hb
  have q1 := Sh.mkv_le replicaSh x.1 k
  have q2 := Sh.mrkL_le saySh x.2.1 (replicaSh.mkv x.1 k).2
  refine acall_q fun Q HQ => ?_
  obtain ⟨_, t1, A1, rfl, wt1, ot1, s1, s2, s3, s4⟩ := mkReplica h hw x.1 _ _ _ _ j1 j2 j3 j4 s1 s2 s3 s4 (by (try simp only [List.nodup_append, List.mem_append]); first | exact nd | exact nd.1 | exact nd.2.1 | exact nd.2.1.1 | exact nd.2.1.2.1 | exact nd.2.1.2.1.1 | exact ⟨nd.1, nd.2.1.1, fun a ha b hb => nd.2.2 a ha b (.inl hb)⟩ | grind) k (by omega) (by omega)
  have s5 := s5.out ot1 (by intro z hz hz2; (try simp only [List.mem_append, List.append_nil, List.nil_append, List.not_mem_nil, or_false, false_or] at hz2); first | exact (show ∀ z ∈ j5, z ∉ j1 from (by intro z hz hz2; have := nd.2.2; first | exact this z (by simp [hz]) z (by simp [hz2]) rfl | exact this z (by simp [hz2]) z (by simp [hz]) rfl)) z hz hz2 | exact (show ∀ z ∈ j5, z ∉ j2 from (by intro z hz hz2; have := nd.2.1.2.2; first | exact this z (by simp [hz]) z (by simp [hz2]) rfl | exact this z (by simp [hz2]) z (by simp [hz]) rfl)) z hz hz2 | exact (show ∀ z ∈ j5, z ∉ j3 from (by intro z hz hz2; have := nd.2.1.2.1.2.2; first | exact this z (by simp [hz]) z (by simp [hz2]) rfl | exact this z (by simp [hz2]) z (by simp [hz]) rfl)) z hz hz2 | exact (show ∀ z ∈ j5, z ∉ j4 from (by intro z hz hz2; have := nd.2.1.2.1.2.1.2.2; first | exact this z (by simp [hz]) z (by simp [hz2]) rfl | exact this z (by simp [hz2]) z (by simp [hz]) rfl)) z hz hz2 | grind)
  obtain ⟨_, t2, A2, rfl, wt2, ot2, s5⟩ := mkSayS t1 wt1 x.2.1 _ _ s5 nd.2.1.2.1.2.1.2.1 (replicaSh.mkv x.1 k).2 (by omega) (by omega)
  have s1 := s1.out ot2 (by intro z hz hz2; (try simp only [List.mem_append, List.append_nil, List.nil_append, List.not_mem_nil, or_false, false_or] at hz2); first | exact (show ∀ z ∈ j1, z ∉ j5 from (by intro z hz hz2; have := nd.2.2; first | exact this z (by simp [hz]) z (by simp [hz2]) rfl | exact this z (by simp [hz2]) z (by simp [hz]) rfl)) z hz hz2 | grind)
  have s2 := s2.out ot2 (by intro z hz hz2; (try simp only [List.mem_append, List.append_nil, List.nil_append, List.not_mem_nil, or_false, false_or] at hz2); first | exact (show ∀ z ∈ j2, z ∉ j5 from (by intro z hz hz2; have := nd.2.1.2.2; first | exact this z (by simp [hz]) z (by simp [hz2]) rfl | exact this z (by simp [hz2]) z (by simp [hz]) rfl)) z hz hz2 | grind)
  have s3 := s3.out ot2 (by intro z hz hz2; (try simp only [List.mem_append, List.append_nil, List.nil_append, List.not_mem_nil, or_false, false_or] at hz2); first | exact (show ∀ z ∈ j3, z ∉ j5 from (by intro z hz hz2; have := nd.2.1.2.1.2.2; first | exact this z (by simp [hz]) z (by simp [hz2]) rfl | exact this z (by simp [hz2]) z (by simp [hz]) rfl)) z hz hz2 | grind)
  have s4 := s4.out ot2 (by intro z hz hz2; (try simp only [List.mem_append, List.append_nil, List.nil_append, List.not_mem_nil, or_false, false_or] at hz2); first | exact (show ∀ z ∈ j4, z ∉ j5 from (by intro z hz hz2; have := nd.2.1.2.1.2.1.2.2; first | exact this z (by simp [hz]) z (by simp [hz2]) rfl | exact this z (by simp [hz2]) z (by simp [hz]) rfl)) z hz hz2 | grind)
  refine acall_vc (fun _ => false) (fun _ => []) (fun _ => .none) mixed Tryz.func19 rfl rfl rfl (Nat.le_of_ble_eq_true rfl) (by (refine vc_mp (by kernel_rfl : (Qji True) = _) ?_; delta Qji); simp only [and_self]) ?_
  (refine vc_mp (by kernel_rfl : (∃ (x_1 : Int) (h' : AHeap), Qko 13 (Value.agg (Array.mk [Qig (Prod.fst (Prod.fst x)), Qig (Prod.fst (Prod.snd (Prod.fst x))), Value.bool (Prod.fst (Prod.snd (Prod.snd (Prod.fst x)))), Ql1 x, Qkf a1 (Ql0 (Prod.fst x)) c1, Qjx a2 (Qkz (Prod.fst x)) c2, Qky (Prod.fst x), Qkx (Prod.fst x), Qkw (Prod.fst x), Qkv (Prod.fst x), Qku (Prod.fst x), Qkt a3 (Prod.fst x) c3, Qks a4 (Prod.fst x) c4])) k h x_1 h' (∃ (x_2 : Int) (h'_1 : AHeap), Qko 14 (Qk6 a5 (Prod.fst (Prod.snd x)) c5) x_1 h' x_2 h'_1 (Q (Qig x_2) h'_1))) = _) ?_; delta Qig Qj7 Qjx Qk6 Qkf Qko Qkp Qks Qkt Qku Qkv Qkw Qkx Qky Qkz Ql0 Ql1)
  refine ⟨_, _, A1, ?_⟩
  refine ⟨_, _, A2, ?_⟩
  exact HQ _ _ ⟨rfl, wt2, ((ot1.widen (by intro z hz; (try simp only [List.mem_append, List.append_nil, List.nil_append, List.not_mem_nil, or_false, false_or] at hz ⊢); first | simp [hz] | grind)).trans (ot2.widen (by intro z hz; (try simp only [List.mem_append, List.append_nil, List.nil_append, List.not_mem_nil, or_false, false_or] at hz ⊢); first | simp [hz] | grind))), s1, s2, s3, s4, s5⟩
def Ql2 (a : Sh.T replicaOutSh) (b : Int) := Sh.mkv replicaOutSh a b
theorem hdReplicaOut (h : AHeap) (hw : h.wf) (x : replicaOutSh.T) (v1 v2 v3 v4 v5 : Value) (k : Int) (rd : replicaOutSh.rd h (replicaOutSh.mkv x k).1 [.int .i64 x.1.1, .int .i64 x.1.2.1, .bool x.1.2.2.1, .int .i64 x.1.2.2.2.1, v1, v2, .int .i64 x.1.2.2.2.2.2.2.1.1, .int .i64 x.1.2.2.2.2.2.2.1.2.1, .int .i64 x.1.2.2.2.2.2.2.1.2.2.1, .int .i64 x.1.2.2.2.2.2.2.1.2.2.2.1, .string x.1.2.2.2.2.2.2.1.2.2.2.2.1, v3, v4, v5, .int .i64 x.2.2]) (hk : 0 ≤ k) (hb : (replicaOutSh.mkv x k).2 ≤ 1000000000000000) :
    ∃ w h', ACall Tryz.prog 20 [.agg #[.int .i64 x.1.1, .int .i64 x.1.2.1, .bool x.1.2.2.1, .int .i64 x.1.2.2.2.1, v1, v2, .int .i64 x.1.2.2.2.2.2.2.1.1, .int .i64 x.1.2.2.2.2.2.2.1.2.1, .int .i64 x.1.2.2.2.2.2.2.1.2.2.1, .int .i64 x.1.2.2.2.2.2.2.1.2.2.2.1, .string x.1.2.2.2.2.2.2.1.2.2.2.2.1, v3, v4, v5, .int .i64 x.2.2], .int .i64 k] h w h' ∧ w = .int .i64 (replicaOutSh.mkv x k).2 ∧ h'.wf ∧ h.Le h' := by
  obtain ⟨y1, y2, y3, y4, y5, ec, s1, s2, s3, s4, s5⟩ := rd_replicaOut.1 rd
  cases ec
  have bd : (mrkL (Sh.mkd saySh) x.2.1 (replicaSh.mkv x.1 k).2).2 ≤ 1000000000000000 := hb
  have q1 := Sh.mkv_le replicaSh x.1 k
  have q2 := Sh.mrkL_le saySh x.2.1 (replicaSh.mkv x.1 k).2
  have s5 : Sl h saySh (mrkL (Sh.mkd saySh) x.2.1 (replicaSh.mkv x.1 k).2).1 v5 := s5
  obtain ⟨a1, c1, rfl⟩ := s1.isSlice
  obtain ⟨a2, c2, rfl⟩ := s2.isSlice
  obtain ⟨a3, c3, rfl⟩ := s3.isSlice
  obtain ⟨a4, c4, rfl⟩ := s4.isSlice
  obtain ⟨a5, c5, rfl⟩ := s5.isSlice
  refine acall_q fun Q HQ => ?_
  obtain ⟨_, t1, A1, rfl, wt1, lt1⟩ := hdReplica h hw x.1 _ _ _ _ k (rd_replica.2 ⟨_, _, _, _, rfl, s1, s2, s3, s4⟩) (by omega) (by omega)
  have s1 := s1.mono lt1
  have s2 := s2.mono lt1
  have s3 := s3.mono lt1
  have s4 := s4.mono lt1
  have s5 := s5.mono lt1
  obtain ⟨_, t2, A2, rfl, wt2, lt2⟩ := hdSayS t1 wt1 x.2.1 _ (replicaSh.mkv x.1 k).2 s5 (by omega) (by omega)
  have s1 := s1.mono lt2
  have s2 := s2.mono lt2
  have s3 := s3.mono lt2
  have s4 := s4.mono lt2
  have s5 := s5.mono lt2
  refine acall_vc (fun _ => false) (fun _ => []) (fun _ => .none) mixed Tryz.func20 rfl rfl rfl (Nat.le_of_ble_eq_true rfl) (by (refine vc_mp (by kernel_rfl : (Qkq True True (Qid Qif ∧ True ∧ True)) = _) ?_; delta Qid Qif Qkq); simp only [and_self]) ?_
  (refine vc_mp (by kernel_rfl : (∃ (x_1 : Int) (h' : AHeap), Qko 60 (Value.agg (Array.mk [Qig (Prod.fst (Prod.fst x)), Qig (Prod.fst (Prod.snd (Prod.fst x))), Value.bool (Prod.fst (Prod.snd (Prod.snd (Prod.fst x)))), Ql1 x, Qkf a1 (Ql0 (Prod.fst (Prod.fst (Ql2 x k)))) c1, Qjx a2 (Qkz (Prod.fst (Prod.fst (Ql2 x k)))) c2, Qky (Prod.fst x), Qkx (Prod.fst x), Qkw (Prod.fst x), Qkv (Prod.fst x), Qku (Prod.fst x), Qkt a3 (Prod.fst (Prod.fst (Ql2 x k))) c3, Qks a4 (Prod.fst (Prod.fst (Ql2 x k))) c4])) k h x_1 h' (bs (decide (x_1 < 0)) (Q Qkr h') (∃ (x_2 : Int) (h'_1 : AHeap), Qko 15 (Qk6 a5 (Qk7 (Prod.fst (Prod.snd x)) (Prod.snd (Sh.mkv replicaSh (Prod.fst x) k))) c5) x_1 h' x_2 h'_1 (bs (decide (x_2 < 0)) (Q Qkr h'_1) (Q (Qig x_2) h'_1))))) = _) ?_; delta Qig Qj7 Qjx Qk6 Qk7 Qkf Qko Qkp Qkr Qks Qkt Qku Qkv Qkw Qkx Qky Qkz Ql0 Ql1 Ql2)
  refine ⟨_, _, A1, bs_d (fun e => absurd e (by omega)) (fun _ => ?_)⟩
  refine ⟨_, _, A2, bs_d (fun e => absurd e (by omega)) (fun _ => ?_)⟩
  exact HQ _ _ ⟨rfl, wt2, (lt1.trans lt2)⟩
end Go.Proofs.YtpgfjadjhliohaaGreat
