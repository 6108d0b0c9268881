/- N1. -/
import Derived.Test.YtpgfjadjhliohaaGreatV18R3
namespace Go.Dat
open Go.Abs
theorem len_le_sum {α : Type} {c : α → Nat} (hc : ∀ x, 1 ≤ c x) {xs : List α} : xs.length ≤ (xs.map c).sum := by
  induction xs with
  | nil => simp
  | cons x xs ih => have := hc x; simp only [List.length_cons, List.map_cons, List.sum_cons]; omega
theorem rn_vote {h : AHeap} {x : voteSh.T} {cs : List Value} {ids : List Nat} : voteSh.rn h x cs ids ↔ cs = [.int .i64 x.1, .int .i64 x.2.1, .int .i64 x.2.2.1, .string x.2.2.2.1, .int .i64 x.2.2.2.2] ∧ ids = [] ++ ([] ++ ([] ++ ([] ++ ([])))) := by
  constructor
  · rintro ⟨_, _, _, _, rfl, rfl, ⟨rfl, rfl⟩, _, _, _, _, rfl, rfl, ⟨rfl, rfl⟩, _, _, _, _, rfl, rfl, ⟨rfl, rfl⟩, _, _, _, _, rfl, rfl, ⟨rfl, rfl⟩, rfl, rfl⟩
    exact ⟨rfl, rfl⟩
  · rintro ⟨rfl, rfl⟩
    exact ⟨[_], _, [], _, rfl, rfl, ⟨rfl, rfl⟩, [_], _, [], _, rfl, rfl, ⟨rfl, rfl⟩, [_], _, [], _, rfl, rfl, ⟨rfl, rfl⟩, [_], _, [], _, rfl, rfl, ⟨rfl, rfl⟩, rfl, rfl⟩
end Go.Dat
namespace Go.Proofs.YtpgfjadjhliohaaGreat
open Go.Abs Go.Dat
set_option maxRecDepth 100000
set_option maxHeartbeats 4000000
abbrev Qof := AHeap
abbrev Qog := List Nat
abbrev Qoh := Option Addr
abbrev Qoi := List (Sh.T Sh.int)
abbrev Qoj := Nat × Int × AHeap × List (Sh.T Sh.int)
abbrev Qok := List Value
abbrev Qol := Nat × Int × AHeap
abbrev Qom := List (Sh.T Sh.str)
abbrev Qon := Nat × Int × AHeap × List (Sh.T Sh.str)
abbrev Qoo := List (Sh.T proofSh)
abbrev Qop := Nat × Int × AHeap × List (Sh.T proofSh)
abbrev Qoq := List (Sh.T changeSh)
abbrev Qor := Nat × Int × AHeap × List (Sh.T changeSh)
abbrev Qos := List (Sh.T saySh)
abbrev Qot := Nat × Int × AHeap × List (Sh.T saySh)
abbrev Qou := List (Sh.T voteSh)
abbrev Qov := Nat × Int × AHeap × List (Sh.T voteSh)
def Qlg (a : Prop) := True ∧ a ∧ True
def Qlh (a b : Prop) := True ∧ (True ∧ a ∧ Qlg True ∧ b ∧ True) ∧ True ∧ True
def Qli := True ∧ True
def Qlj (a : Int) := Value.int IntKind.i64 a
def Qlk (a b : Int) (c d : Qof) (e : Qog) (f : Qof) (g : Prop) := Qlj a = Qlj b ∧ c = d ∧ AHeap.wf c ∧ Out e f c ∧ g
def Qll (a : Qoh) (b : Qoi) (c : Nat) := Value.slice a (List.length b) c
def Qlm (a : Qof) (b : Qoi) (c : Int) (d : Qoh) (e : Nat) (f : Qog) := So a Sh.int (Prod.fst (mrkL (Sh.mkd Sh.int) b c)) (Qll d b e) f
def Qln (a : Qoj) := Prod.fst (Prod.snd (Prod.snd a))
def Qlo (a : Qoi) (b : Int) := Prod.snd (mrkL (Sh.mkd Sh.int) a b)
def Qlp (a : Qoj) := Prod.fst (Prod.snd a)
def Qlq (a : Prop) (b : Int) (c : Nat) (d : Prop) := a ∧ 0 ≤ b ∧ b < (↑c : Int) ∧ d
def Qlr (a : Qof) (b c : Nat) (d : Int) (e : Nat) (f : Qok) (g : Qof) (h : Prop) := AHeap.wr a b (c + Int.toNat d) e f = some g ∧ h
def Qls (a : Int) := IntKind.wrap IntKind.i64 (a + 1)
def Qlt (a : Value) (b c d e : Int) (f g : Qof) (h : Prop) (i j k : Nat) (l m : Prop) := a = a ∧ Qlj b = Qlj c ∧ Qlj (Qls d) = Qlj e ∧ f = g ∧ h ∧ i - j < i - k ∧ l ∧ m
def Qlu := False → False
def Qlv (a : Qof) (b : Qog) (c : Qof) (d : Prop) := AHeap.wf a ∧ Out b c a ∧ d
def Qlw (a : Qof) (b : Qog) (c : Qof) (d : Prop) := Qlv a b c d → Qlv a b c d
def Qlx (a : Qof) (b : Qoi) (c : Int) (d : Qoh) (e : Nat) (f : Qog) (g : Qoj) := MkI Sh.int a b c (Qll d b e) f (Prod.fst g) (Qlp g) (Qln g) (Prod.snd (Prod.snd (Prod.snd g)))
def Qly (a : Qoj) := (↑(Prod.fst a) : Int)
def Qlz (a : Qoh) (b c d : Nat) := a = some (Addr.mk b c (some d))
def Qm0 (a : Value) (b c d : Int) (e f : Qof) (g h i : Prop) := a = a ∧ Qlj b = Qlj c ∧ Qlj 0 = Qlj d ∧ e = f ∧ g ∧ h ∧ i
theorem mkInt64S (h : AHeap) (hw : h.wf) (xs : List (Sh.T Sh.int)) (v : Value) (ids : List Nat) (so : So h Sh.int xs v ids) (nd : ids.Nodup) (k : Int) (hk : 0 ≤ k) (hb : (mrkL (Sh.mkd Sh.int) xs k).2 ≤ 1000000000000000) :
    ∃ w h', ACall Tryz.prog 141 [v, .int .i64 k] h w h' ∧ w = .int .i64 (mrkL (Sh.mkd Sh.int) xs k).2 ∧ h'.wf ∧ Out ids h h' ∧ So h' Sh.int (mrkL (Sh.mkd Sh.int) xs k).1 v ids := by
  have hn : (xs.length : Int) ≤ 1000000000000000 := by have := mrkL_cn (Sh.mkd_cn Sh.int) xs k; have := len_le_sum (c := Sh.cn Sh.int) (xs := xs) (fun x => by simp only [Sh.cn]; omega); omega
  obtain ⟨a, c, rfl⟩ := so.sl.isSlice
  refine acall_q fun Q HQ => ?_
  refine acall_vc (fun _ => false) (fun _ => []) (fun _ => mkLp Sh.int h xs k (.slice a xs.length c) ids) mixed Tryz.func141 rfl rfl rfl (Nat.le_of_ble_eq_true rfl) ?_ ?_
  · (refine vc_mp (by kernel_rfl : (Qlh (∀ (i : Nat × Int × AHeap × List (Sh.T Sh.int)), Qlx h xs k a c ids i → bs (decide (Qly i < (↑(List.length xs) : Int))) (∃ (l r : Nat), Qlq (Qlz a l r 1) (Qly i) (List.length xs) (∃ (h' : AHeap), Qlr (Qln i) l r (Qly i) 0 [Qlj (Qlp i)] h' (∃ (j : Nat × Int × AHeap × List (Sh.T Sh.int)), Qlt (Qll a xs c) (Qls (Qlp i)) (Qlp j) (Qly i) (Qly j) (Qln j) h' (Qlx h xs k a c ids j) (List.length xs) (Prod.fst j) (Prod.fst i) (∀ (k_1 : AHeap), Qlw k_1 ids h (Qlm k_1 xs k a c ids)) (∀ (v : Value) (h : AHeap), Qlu)))) (∃ (j : AHeap), Qlk (Qlp i) (Qlo xs k) j (Qln i) ids h (Qlm j xs k a c ids))) Qli) = _) ?_; delta Qlg Qlh Qli Qlj Qlk Qll Qlm Qln Qlo Qlp Qlq Qlr Qls Qlt Qlu Qlv Qlw Qlx Qly Qlz)
    simp only [true_and, and_true]
    rintro ⟨i, ki, g, ys⟩ I
    dsimp only at *
    have hi := I.hi
    have k0 := I.k0
    refine bs_d (fun hlt => ?_) (fun hge => ?_)
    · obtain ⟨x, hx⟩ : ∃ y : Sh.T Sh.int, xs[i]? = some y := ⟨_, List.getElem?_eq_getElem (by omega)⟩
      have bd : ki + 1 ≤ 1000000000000000 := I.bound hx hb
      obtain ⟨l, r, n', c', rows, cs, js, e, hin, E0, ro, hlj, ndj, hsub, fin⟩ := I.so.elem nd I.wf (I.at hx)
      cases e
      obtain ⟨rfl, rfl⟩ := ro
      obtain ⟨g1, w1, E1, o1⟩ := E0.wr 0 [.int .i64 (ki)] [.int .i64 (ki)] (Nat.le_of_ble_eq_true rfl) rfl
      refine ⟨l, r, rfl, Int.natCast_nonneg _, hlt, g1, w1, ?_⟩
      try rw [wrap_i64 (n := ki + 1) (by omega)]
      have so2 := fin _ _ (Sh.mkd Sh.int x ki).1 E1 (⟨rfl, rfl⟩)
      exact ⟨(i + 1, (Sh.mkd Sh.int x ki).2, _, ys.set i (Sh.mkd Sh.int x ki).1), rfl, by rw [wrap_i64 (by omega)] <;> rfl, rfl, I.step hx E1.wf (E1.out.widen hsub) so2, by dsimp only; omega, fun _ h => h, fun _ _ h => h⟩
    · obtain ⟨e1, e2⟩ := I.finish (by omega)
      exact ⟨g, by rw [e1], rfl, I.wf, I.out, e2⟩
  · (refine vc_mp (by kernel_rfl : (∃ (i : Nat × Int × AHeap × List (Sh.T Sh.int)), Qm0 (Qll a xs c) k (Qlp i) (Qly i) (Qln i) h (Qlx h xs k a c ids i) (∀ (j : AHeap), Qlv j ids h (Qlm j xs k a c ids) → Q (Qlj (Qlo xs k)) j) (∀ (v : Value) (h : AHeap), False → Q v h)) = _) ?_; delta Qlj Qll Qlm Qln Qlo Qlp Qlv Qlx Qly Qm0)
    exact ⟨(0, k, h, xs), rfl, rfl, rfl, rfl, .start hw hk so, fun j hj => HQ _ _ ⟨rfl, hj⟩, fun _ _ h => h.elim⟩
def Qm1 (a : Qol) := Prod.snd (Prod.snd a)
def Qm2 (a : Qol) := Prod.fst (Prod.snd a)
def Qm3 (a : Qol) (b : Int) (c d : Qof) := Qlj (Qm2 a) = Qlj b ∧ c = Qm1 a ∧ AHeap.wf c ∧ AHeap.Le d c
def Qm4 (a : Qof) (b c : Nat) (d : Int) (e : Nat) := AHeap.ld a b (c + Int.toNat d) e 1
def Qm5 (a : Qol) := (↑(Prod.fst a) : Int)
def Qm6 (a : Qol) (b c d : Nat) (e : Qok) (f : Prop) := Qm4 (Qm1 a) b c (Qm5 a) d = some e ∧ f
def Qm7 (a : Qol) (b c : Nat) (d : Int) (e : Bool) (f : Prop) := Qm6 a b c 0 [Qlj d] (bs (not e) False f)
def Qm8 (a : Value) (b : Int) (c d : Qol) (e : Qof) (f : Prop) (g : Nat) (h i : Prop) := a = a ∧ Qlj b = Qlj (Qm2 c) ∧ Qlj (Qls (Qm5 d)) = Qlj (Qm5 c) ∧ Qm1 c = e ∧ f ∧ g - Prod.fst c < g - Prod.fst d ∧ h ∧ i
def Qm9 (a b : Qof) := AHeap.wf a ∧ AHeap.Le b a
def Qma (a b : Qof) := Qm9 a b → Qm9 a b
def Qmb (a : Qof) (b : Qoi) (c : Int) (d : Qol) := HdI Sh.int a b c (Prod.fst d) (Qm2 d) (Qm1 d)
def Qmc (a : Qol) := Qls (Qm2 a)
def Qmd (a : Value) (b : Int) (c : Qol) (d : Qof) (e f g : Prop) := Qm0 a b (Qm2 c) (Qm5 c) (Qm1 c) d e f g
theorem hdInt64S (h : AHeap) (hw : h.wf) (xs : List (Sh.T Sh.int)) (v : Value) (k : Int) (hx : Sl h Sh.int (mrkL (Sh.mkd Sh.int) xs k).1 v) (hk : 0 ≤ k) (hb : (mrkL (Sh.mkd Sh.int) xs k).2 ≤ 1000000000000000) :
    ∃ w h', ACall Tryz.prog 142 [v, .int .i64 k] h w h' ∧ w = .int .i64 (mrkL (Sh.mkd Sh.int) xs k).2 ∧ h'.wf ∧ h.Le h' := by
  have hn : (xs.length : Int) ≤ 1000000000000000 := by have := mrkL_cn (Sh.mkd_cn Sh.int) xs k; have := len_le_sum (c := Sh.cn Sh.int) (xs := xs) (fun x => by simp only [Sh.cn]; omega); omega
  obtain ⟨a, c, rfl⟩ := hx.isSlice
  rw [mrkL_len] at hx ⊢
  refine acall_q fun Q HQ => ?_
  refine acall_vc (fun _ => false) (fun _ => []) (fun _ => hdLp Sh.int h xs k (.slice a xs.length c)) mixed Tryz.func142 rfl rfl rfl (Nat.le_of_ble_eq_true rfl) ?_ ?_
  · (refine vc_mp (by kernel_rfl : (Qlh (∀ (i : Nat × Int × AHeap), Qmb h xs k i → bs (decide (Qm5 i < (↑(List.length xs) : Int))) (∃ (l r : Nat), Qlq (Qlz a l r 1) (Qm5 i) (List.length xs) (∃ (x : Int), Qm7 i l r x (decide (x = Qm2 i)) (∃ (j : Nat × Int × AHeap), Qm8 (Qll a xs c) (Qmc i) j i (Qm1 i) (Qmb h xs k j) (List.length xs) (∀ (k : AHeap), Qma k h) (∀ (v : Value) (h : AHeap), Qlu)))) (∃ (j : AHeap), Qm3 i (Qlo xs k) j h)) (Qlg Qli ∧ True)) = _) ?_; delta Qlg Qlh Qli Qlj Qll Qlo Qlq Qls Qlu Qlz Qm1 Qm2 Qm3 Qm4 Qm5 Qm6 Qm7 Qm8 Qm9 Qma Qmb Qmc)
    simp only [true_and, and_true]
    rintro ⟨i, ki, g⟩ I
    dsimp only at *
    have hi := I.hi
    have k0 := I.k0
    refine bs_d (fun hlt => ?_) (fun hge => ?_)
    · obtain ⟨x, hat⟩ : ∃ y : Sh.T Sh.int, xs[i]? = some y := ⟨_, List.getElem?_eq_getElem (by omega)⟩
      have bd : ki + 1 ≤ 1000000000000000 := I.bound hat hb
      obtain ⟨l, r, row, ha, _, hrd, hld⟩ := (hx.mono I.le).elem (I.at hat)
      obtain rfl : row = [.int .i64 ki] := hrd
      refine ⟨l, r, ha, Int.natCast_nonneg _, hlt, _, hld, bs_dn (fun e => absurd rfl e) (fun _ => ?_)⟩
      try rw [wrap_i64 (n := ki + 1) (by omega)]
      exact ⟨(i + 1, (Sh.mkd Sh.int x ki).2, _), rfl, by rw [wrap_i64 (by omega)] <;> rfl, rfl, I.step hat I.wf (.refl _), by dsimp only; omega, fun _ h => h, fun _ _ h => h⟩
    · exact ⟨g, by rw [I.finish (by omega)], rfl, I.wf, I.le⟩
  · (refine vc_mp (by kernel_rfl : (∃ (i : Nat × Int × AHeap), Qmd (Qll a xs c) k i h (Qmb h xs k i) (∀ (j : AHeap), Qm9 j h → Q (Qlj (Qlo xs k)) j) (∀ (v : Value) (h : AHeap), False → Q v h)) = _) ?_; delta Qlj Qll Qlo Qm0 Qm1 Qm2 Qm5 Qm9 Qmb Qmd)
    exact ⟨(0, k, h), rfl, rfl, rfl, rfl, .start hw hk, fun j hj => HQ _ _ ⟨rfl, hj⟩, fun _ _ h => h.elim⟩
def Qme (a : Qoh) (b : Qom) (c : Nat) := Value.slice a (List.length b) c
def Qmf (a : Qof) (b : Qom) (c : Int) (d : Qoh) (e : Nat) (f : Qog) := So a Sh.str (Prod.fst (mrkL (Sh.mkd Sh.str) b c)) (Qme d b e) f
def Qmg (a : Qon) := Prod.fst (Prod.snd (Prod.snd a))
def Qmh (a : Qom) (b : Int) := Prod.snd (mrkL (Sh.mkd Sh.str) a b)
def Qmi (a : Qon) := Prod.fst (Prod.snd a)
def Qmj (a : Qof) (b : Qom) (c : Int) (d : Qoh) (e : Nat) (f : Qog) (g : Qon) := MkI Sh.str a b c (Qme d b e) f (Prod.fst g) (Qmi g) (Qmg g) (Prod.snd (Prod.snd (Prod.snd g)))
def Qmk (a : Qon) := (↑(Prod.fst a) : Int)
def Qml (a : ByteArray) := [Value.string a]
def Qmm (a : Qok) (b : Qof) (c : ByteArray) (d : Qof) := ACall Tryz.prog 47 a b (Value.string c) d
theorem mkStringS (h : AHeap) (hw : h.wf) (xs : List (Sh.T Sh.str)) (v : Value) (ids : List Nat) (so : So h Sh.str xs v ids) (nd : ids.Nodup) (k : Int) (hk : 0 ≤ k) (hb : (mrkL (Sh.mkd Sh.str) xs k).2 ≤ 1000000000000000) :
    ∃ w h', ACall Tryz.prog 46 [v, .int .i64 k] h w h' ∧ w = .int .i64 (mrkL (Sh.mkd Sh.str) xs k).2 ∧ h'.wf ∧ Out ids h h' ∧ So h' Sh.str (mrkL (Sh.mkd Sh.str) xs k).1 v ids := by
  have hn : (xs.length : Int) ≤ 1000000000000000 := by have := mrkL_cn (Sh.mkd_cn Sh.str) xs k; have := len_le_sum (c := Sh.cn Sh.str) (xs := xs) (fun x => by simp only [Sh.cn]; omega); omega
  obtain ⟨a, c, rfl⟩ := so.sl.isSlice
  refine acall_q fun Q HQ => ?_
  refine acall_vc (fun _ => false) (fun _ => []) (fun _ => mkLp Sh.str h xs k (.slice a xs.length c) ids) mixed Tryz.func46 rfl rfl rfl (Nat.le_of_ble_eq_true rfl) ?_ ?_
  · (refine vc_mp (by kernel_rfl : (Qlh (∀ (i : Nat × Int × AHeap × List (Sh.T Sh.str)), Qmj h xs k a c ids i → bs (decide (Qmk i < (↑(List.length xs) : Int))) (∃ (x : ByteArray) (h' : AHeap), Qmm [Qlj (Qmi i)] (Qmg i) x h' ∧ (∃ (l r : Nat), Qlq (Qlz a l r 1) (Qmk i) (List.length xs) (∃ (h'_1 : AHeap), Qlr h' l r (Qmk i) 0 (Qml x) h'_1 (∃ (j : Nat × Int × AHeap × List (Sh.T Sh.str)), Qlt (Qme a xs c) (Qls (Qmi i)) (Qmi j) (Qmk i) (Qmk j) (Qmg j) h'_1 (Qmj h xs k a c ids j) (List.length xs) (Prod.fst j) (Prod.fst i) (∀ (k_1 : AHeap), Qlw k_1 ids h (Qmf k_1 xs k a c ids)) (∀ (v : Value) (h : AHeap), Qlu))))) (∃ (j : AHeap), Qlk (Qmi i) (Qmh xs k) j (Qmg i) ids h (Qmf j xs k a c ids))) Qli) = _) ?_; delta Qlg Qlh Qli Qlj Qlk Qlq Qlr Qls Qlt Qlu Qlv Qlw Qlz Qme Qmf Qmg Qmh Qmi Qmj Qmk Qml Qmm)
    simp only [true_and, and_true]
    rintro ⟨i, ki, g, ys⟩ I
    dsimp only at *
    have hi := I.hi
    have k0 := I.k0
    refine bs_d (fun hlt => ?_) (fun hge => ?_)
    · obtain ⟨x, hx⟩ : ∃ y : Sh.T Sh.str, xs[i]? = some y := ⟨_, List.getElem?_eq_getElem (by omega)⟩
      have bd : ki + 1 ≤ 1000000000000000 := I.bound hx hb
      obtain ⟨l, r, n', c', rows, cs, js, e, hin, E0, ro, hlj, ndj, hsub, fin⟩ := I.so.elem nd I.wf (I.at hx)
      cases e
      obtain ⟨rfl, rfl⟩ := ro
      obtain ⟨_, t1, A1, lt1, wt1, rfl⟩ := mt_spec (ki) _ E0.wf (by omega)
      have E0 := E0.le lt1 wt1
      obtain ⟨g1, w1, E1, o1⟩ := E0.wr 0 [.string (mtext (ki))] [.string (mtext (ki))] (Nat.le_of_ble_eq_true rfl) rfl
      refine ⟨_, _, A1, l, r, rfl, Int.natCast_nonneg _, hlt, g1, w1, ?_⟩
      try rw [wrap_i64 (n := ki + 1) (by omega)]
      have so2 := fin _ _ (Sh.mkd Sh.str x ki).1 E1 (⟨rfl, rfl⟩)
      exact ⟨(i + 1, (Sh.mkd Sh.str x ki).2, _, ys.set i (Sh.mkd Sh.str x ki).1), rfl, by rw [wrap_i64 (by omega)] <;> rfl, rfl, I.step hx E1.wf (E1.out.widen hsub) so2, by dsimp only; omega, fun _ h => h, fun _ _ h => h⟩
    · obtain ⟨e1, e2⟩ := I.finish (by omega)
      exact ⟨g, by rw [e1], rfl, I.wf, I.out, e2⟩
  · (refine vc_mp (by kernel_rfl : (∃ (i : Nat × Int × AHeap × List (Sh.T Sh.str)), Qm0 (Qme a xs c) k (Qmi i) (Qmk i) (Qmg i) h (Qmj h xs k a c ids i) (∀ (j : AHeap), Qlv j ids h (Qmf j xs k a c ids) → Q (Qlj (Qmh xs k)) j) (∀ (v : Value) (h : AHeap), False → Q v h)) = _) ?_; delta Qlj Qlv Qm0 Qme Qmf Qmg Qmh Qmi Qmj Qmk)
    exact ⟨(0, k, h, xs), rfl, rfl, rfl, rfl, .start hw hk so, fun j hj => HQ _ _ ⟨rfl, hj⟩, fun _ _ h => h.elim⟩
def Qmn (a : Qok) (b : Qol) (c : ByteArray) (d : Qof) (e : Prop) (f : Bool) (g : Prop) := Qmm a (Qm1 b) c d ∧ e ∧ bs (not f) False g
def Qmo (a : Qof) (b : Qom) (c : Int) (d : Qol) := HdI Sh.str a b c (Prod.fst d) (Qm2 d) (Qm1 d)
def Qmp (a : Qof) (b c : Nat) (d : Qol) (e : Nat) (f : Qok) (g : Prop) := Qm4 a b c (Qm5 d) e = some f ∧ g
theorem hdStringS (h : AHeap) (hw : h.wf) (xs : List (Sh.T Sh.str)) (v : Value) (k : Int) (hx : Sl h Sh.str (mrkL (Sh.mkd Sh.str) xs k).1 v) (hk : 0 ≤ k) (hb : (mrkL (Sh.mkd Sh.str) xs k).2 ≤ 1000000000000000) :
    ∃ w h', ACall Tryz.prog 116 [v, .int .i64 k] h w h' ∧ w = .int .i64 (mrkL (Sh.mkd Sh.str) xs k).2 ∧ h'.wf ∧ h.Le h' := by
  have hn : (xs.length : Int) ≤ 1000000000000000 := by have := mrkL_cn (Sh.mkd_cn Sh.str) xs k; have := len_le_sum (c := Sh.cn Sh.str) (xs := xs) (fun x => by simp only [Sh.cn]; omega); omega
  obtain ⟨a, c, rfl⟩ := hx.isSlice
  rw [mrkL_len] at hx ⊢
  refine acall_q fun Q HQ => ?_
  refine acall_vc (fun _ => false) (fun r => match r with | 4 => [(0, 0, []), (1, 0, []), (2, 0, []), (4, 0, []), (3, 1, []), (5, 3, [3]), (6, 0, [])] | _ => []) (fun _ => hdLp Sh.str h xs k (.slice a xs.length c)) mixed Tryz.func116 rfl rfl rfl (Nat.le_of_ble_eq_true rfl) ?_ ?_
  · (refine vc_mp (by kernel_rfl : (Qlh (∀ (i : Nat × Int × AHeap), Qmo h xs k i → bs (decide (Qm5 i < (↑(List.length xs) : Int))) (∃ (l r : Nat), Qlq (Qlz a l r 1) (Qm5 i) (List.length xs) (∃ (x : ByteArray), Qm6 i l r 0 (Qml x) (∃ (x_1 : ByteArray) (h' : AHeap), Qmn [Qlj (Qm2 i)] i x_1 h' (∃ (x_2 : ByteArray), Qmp h' l r i 0 (Qml x_2) (Value.string x_2 = Value.string x)) (decide (x = x_1)) (∃ (j : Nat × Int × AHeap), Qm8 (Qme a xs c) (Qmc i) j i h' (Qmo h xs k j) (List.length xs) (∀ (k : AHeap), Qma k h) (∀ (v : Value) (h : AHeap), Qlu))))) (∃ (j : AHeap), Qm3 i (Qmh xs k) j h)) (Qlg Qli ∧ True)) = _) ?_; delta Qlg Qlh Qli Qlj Qlq Qls Qlu Qlz Qm1 Qm2 Qm3 Qm4 Qm5 Qm6 Qm8 Qm9 Qma Qmc Qme Qmh Qml Qmm Qmn Qmo Qmp)
    simp only [true_and, and_true]
    rintro ⟨i, ki, g⟩ I
    dsimp only at *
    have hi := I.hi
    have k0 := I.k0
    refine bs_d (fun hlt => ?_) (fun hge => ?_)
    · obtain ⟨x, hat⟩ : ∃ y : Sh.T Sh.str, xs[i]? = some y := ⟨_, List.getElem?_eq_getElem (by omega)⟩
      have bd : ki + 1 ≤ 1000000000000000 := I.bound hat hb
      obtain ⟨l, r, row, ha, _, hrd, hld⟩ := (hx.mono I.le).elem (I.at hat)
      obtain rfl : row = [.string (mtext ki)] := hrd
      obtain ⟨_, t1, A1, lt1, wt1, rfl⟩ := mt_spec (ki) _ I.wf (by omega)
      refine ⟨l, r, ha, Int.natCast_nonneg _, hlt, _, hld, _, _, A1, ⟨_, lt1.ld (hld), rfl⟩, bs_dn (fun e => absurd rfl e) (fun _ => ?_)⟩
      have hld := lt1.ld hld
      try rw [wrap_i64 (n := ki + 1) (by omega)]
      exact ⟨(i + 1, (Sh.mkd Sh.str x ki).2, _), rfl, by rw [wrap_i64 (by omega)] <;> rfl, rfl, I.step hat wt1 lt1, by dsimp only; omega, fun _ h => h, fun _ _ h => h⟩
    · exact ⟨g, by rw [I.finish (by omega)], rfl, I.wf, I.le⟩
  · (refine vc_mp (by kernel_rfl : (∃ (i : Nat × Int × AHeap), Qmd (Qme a xs c) k i h (Qmo h xs k i) (∀ (j : AHeap), Qm9 j h → Q (Qlj (Qmh xs k)) j) (∀ (v : Value) (h : AHeap), False → Q v h)) = _) ?_; delta Qlj Qm0 Qm1 Qm2 Qm5 Qm9 Qmd Qme Qmh Qmo)
    exact ⟨(0, k, h), rfl, rfl, rfl, rfl, .start hw hk, fun j hj => HQ _ _ ⟨rfl, hj⟩, fun _ _ h => h.elim⟩
def Qmq (a : Prop) := True ∧ True ∧ True ∧ True ∧ a
def Qmr (a : Qoh) (b : Qoo) (c : Nat) := Value.slice a (List.length b) c
def Qms (a : Qof) (b : Qoo) (c : Int) (d : Qoh) (e : Nat) (f : Qog) := So a proofSh (Prod.fst (mrkL (Sh.mkd proofSh) b c)) (Qmr d b e) f
def Qmt (a : Qop) := Prod.fst (Prod.snd (Prod.snd a))
def Qmu (a : Qoo) (b : Int) := Prod.snd (mrkL (Sh.mkd proofSh) a b)
def Qmv (a : Qop) := Prod.fst (Prod.snd a)
def Qmw (a : Qop) := (↑(Prod.fst a) : Int)
def Qmx (a : Qoh) (b c : Nat) (d : Qop) (e : Qoo) (f : Prop) := Qlq (Qlz a b c 4) (Qmw d) (List.length e) f
def Qmy (a : Int) := Qls (Qls a)
def Qmz (a : FuncId) (b : Qoh) (c d : Nat) (e : Int) (f : Qof) (g : Int) (h : Qof) (i : Prop) := ACall Tryz.prog a [Value.slice b c d, Qlj (Qmy e)] f (Qlj g) h ∧ i
def Qn0 (a : Qof) (b : Qoo) (c : Int) (d : Qoh) (e : Nat) (f : Qog) (g : Qop) := MkI proofSh a b c (Qmr d b e) f (Prod.fst g) (Qmv g) (Qmt g) (Prod.snd (Prod.snd (Prod.snd g)))
def Qn1 (a : Int) := [Qlj (Qmy a)]
theorem mkProofS (h : AHeap) (hw : h.wf) (xs : List (Sh.T proofSh)) (v : Value) (ids : List Nat) (so : So h proofSh xs v ids) (nd : ids.Nodup) (k : Int) (hk : 0 ≤ k) (hb : (mrkL (Sh.mkd proofSh) xs k).2 ≤ 1000000000000000) :
    ∃ w h', ACall Tryz.prog 102 [v, .int .i64 k] h w h' ∧ w = .int .i64 (mrkL (Sh.mkd proofSh) xs k).2 ∧ h'.wf ∧ Out ids h h' ∧ So h' proofSh (mrkL (Sh.mkd proofSh) xs k).1 v ids := by
  have hn : (xs.length : Int) ≤ 1000000000000000 := by have := mrkL_cn (Sh.mkd_cn proofSh) xs k; have := len_le_sum (c := Sh.cn proofSh) (xs := xs) (fun x => by simp only [Sh.cn]; omega); omega
  obtain ⟨a, c, rfl⟩ := so.sl.isSlice
  refine acall_q fun Q HQ => ?_
  refine acall_vc (fun _ => false) (fun _ => []) (fun _ => mkLp proofSh h xs k (.slice a xs.length c) ids) mixed Tryz.func102 rfl rfl rfl (Nat.le_of_ble_eq_true rfl) ?_ ?_
  · (refine vc_mp (by kernel_rfl : (Qlh (∀ (i : Nat × Int × AHeap × List (Sh.T proofSh)), Qn0 h xs k a c ids i → bs (decide (Qmw i < (↑(List.length xs) : Int))) (∃ (l r : Nat), Qmx a l r i xs (∃ (h' : AHeap), Qlr (Qmt i) l r (Qmw i) 0 [Qlj (Qmv i)] h' (∃ (l r : Nat), Qmx a l r i xs (∃ (h'_1 : AHeap), Qlr h' l r (Qmw i) 1 [Qlj (Qls (Qmv i))] h'_1 (∃ (x : ByteArray) (h' : AHeap), Qmm (Qn1 (Qmv i)) h'_1 x h' ∧ (∃ (l r : Nat), Qmx a l r i xs (∃ (h'_2 : AHeap), Qlr h' l r (Qmw i) 2 (Qml x) h'_2 (∃ (l r : Nat), Qmx a l r i xs (∃ (a_2 : Option Addr) (n c_1 : Nat), Qm4 h'_2 l r (Qmw i) 3 = some [Value.slice a_2 n c_1] ∧ (∃ (x : Int) (h' : AHeap), Qmz 141 a_2 n c_1 (Qls (Qmv i)) h'_2 x h' (∃ (j : Nat × Int × AHeap × List (Sh.T proofSh)), Qlt (Qmr a xs c) x (Qmv j) (Qmw i) (Qmw j) (Qmt j) h' (Qn0 h xs k a c ids j) (List.length xs) (Prod.fst j) (Prod.fst i) (∀ (k_1 : AHeap), Qlw k_1 ids h (Qms k_1 xs k a c ids)) (∀ (v : Value) (h : AHeap), Qlu)))))))))))) (∃ (j : AHeap), Qlk (Qmv i) (Qmu xs k) j (Qmt i) ids h (Qms j xs k a c ids))) (Qmq (Qlg True))) = _) ?_; delta Qlg Qlh Qlj Qlk Qlq Qlr Qls Qlt Qlu Qlv Qlw Qlz Qm4 Qml Qmm Qmq Qmr Qms Qmt Qmu Qmv Qmw Qmx Qmy Qmz Qn0 Qn1)
    simp only [true_and, and_true]
    rintro ⟨i, ki, g, ys⟩ I
    dsimp only at *
    have hi := I.hi
    have k0 := I.k0
    refine bs_d (fun hlt => ?_) (fun hge => ?_)
    · obtain ⟨x, hx⟩ : ∃ y : Sh.T proofSh, xs[i]? = some y := ⟨_, List.getElem?_eq_getElem (by omega)⟩
      have bd : (mrkL (Sh.mkd Sh.int) x.2.2.2 (ki + 1 + 1 + 1)).2 ≤ 1000000000000000 := I.bound hx hb
      obtain ⟨l, r, n', c', rows, cs, js, e, hin, E0, ro, hlj, ndj, hsub, fin⟩ := I.so.elem nd I.wf (I.at hx)
      cases e
      have q1 := Sh.mrkL_le Sh.int x.2.2.2 (ki + 1 + 1 + 1)
      obtain ⟨v1, j1, rfl, rfl, s1⟩ := ro_proof.1 ro
      obtain ⟨a1, c1, rfl⟩ := s1.sl.isSlice
      try simp only [List.mem_append, not_or, List.append_nil, List.nil_append, List.not_mem_nil, not_false_eq_true, true_and, and_true] at hlj
      try simp only [List.nodup_append, List.append_nil, List.nil_append, List.nodup_nil, List.not_mem_nil, List.mem_append, false_imp_iff, implies_true, true_and, and_true] at ndj
      obtain ⟨g1, w1, E1, o1⟩ := E0.wr 0 [.int .i64 (ki)] [.int .i64 (ki), .int .i64 x.2.1, .string x.2.2.1, _] (Nat.le_of_ble_eq_true rfl) rfl
      have s1 := s1.out o1 (nin1 hlj)
      refine ⟨l, r, rfl, Int.natCast_nonneg _, hlt, g1, w1, ?_⟩
      obtain ⟨g2, w2, E2, o2⟩ := E1.wr 1 [.int .i64 (ki + 1)] [.int .i64 (ki), .int .i64 (ki + 1), .string x.2.2.1, _] (Nat.le_of_ble_eq_true rfl) rfl
      have s1 := s1.out o2 (nin1 hlj)
      try rw [wrap_i64 (n := ki + 1) (by omega)]
      refine ⟨l, r, rfl, Int.natCast_nonneg _, hlt, g2, w2, ?_⟩
      obtain ⟨_, t1, A1, lt1, wt1, rfl⟩ := mt_spec (ki + 1 + 1) _ E2.wf (by omega)
      have E2 := E2.le lt1 wt1
      have s1 := So.le lt1 s1
      obtain ⟨g3, w3, E3, o3⟩ := E2.wr 2 [.string (mtext (ki + 1 + 1))] [.int .i64 (ki), .int .i64 (ki + 1), .string (mtext (ki + 1 + 1)), _] (Nat.le_of_ble_eq_true rfl) rfl
      have s1 := s1.out o3 (nin1 hlj)
      try rw [wrap_i64 (n := ki + 1 + 1) (by omega)]
      refine ⟨_, _, A1, l, r, rfl, Int.natCast_nonneg _, hlt, g3, w3, ?_⟩
      try rw [wrap_i64 (n := ki + 1 + 1 + 1) (by omega)]
      obtain ⟨_, t2, A2, rfl, wt2, ot2, s1⟩ := mkInt64S _ E3.wf x.2.2.2 _ _ s1 ndj (ki + 1 + 1 + 1) (by omega) (by omega)
      refine ⟨l, r, rfl, Int.natCast_nonneg _, hlt, _, _, _, E3.ld 3 1 (Nat.le_of_ble_eq_true rfl), _, _, A2, ?_⟩
      have F2' := E3.call ot2 wt2 hlj (by intro z hz; simp [hz])
      have so2 := fin _ _ (Sh.mkd proofSh x ki).1 F2' (ro_proof.2 ⟨_, _, rfl, rfl, s1⟩)
      exact ⟨(i + 1, (Sh.mkd proofSh x ki).2, _, ys.set i (Sh.mkd proofSh x ki).1), rfl, by rw [wrap_i64 (by omega)] <;> rfl, rfl, I.step hx F2'.wf (F2'.out.widen hsub) so2, by dsimp only; omega, fun _ h => h, fun _ _ h => h⟩
    · obtain ⟨e1, e2⟩ := I.finish (by omega)
      exact ⟨g, by rw [e1], rfl, I.wf, I.out, e2⟩
  · (refine vc_mp (by kernel_rfl : (∃ (i : Nat × Int × AHeap × List (Sh.T proofSh)), Qm0 (Qmr a xs c) k (Qmv i) (Qmw i) (Qmt i) h (Qn0 h xs k a c ids i) (∀ (j : AHeap), Qlv j ids h (Qms j xs k a c ids) → Q (Qlj (Qmu xs k)) j) (∀ (v : Value) (h : AHeap), False → Q v h)) = _) ?_; delta Qlj Qlv Qm0 Qmr Qms Qmt Qmu Qmv Qmw Qn0)
    exact ⟨(0, k, h, xs), rfl, rfl, rfl, rfl, .start hw hk so, fun j hj => HQ _ _ ⟨rfl, hj⟩, fun _ _ h => h.elim⟩
def Qn2 (a : Prop) := Qlg Qli ∧ True ∧ Qlg Qli ∧ True ∧ a
def Qn3 (a : Qoh) (b c : Nat) (d : Qol) (e : Qoo) (f : Prop) := Qlq (Qlz a b c 4) (Qm5 d) (List.length e) f
def Qn4 (a : Qol) (b c d : Nat) (e : Int) (f : Bool) (g : Prop) := Qm6 a b c d [Qlj e] (bs (not f) False g)
def Qn5 (a : Qof) (b : Qoo) (c : Int) (d : Qol) := HdI proofSh a b c (Prod.fst d) (Qm2 d) (Qm1 d)
theorem hdProofS (h : AHeap) (hw : h.wf) (xs : List (Sh.T proofSh)) (v : Value) (k : Int) (hx : Sl h proofSh (mrkL (Sh.mkd proofSh) xs k).1 v) (hk : 0 ≤ k) (hb : (mrkL (Sh.mkd proofSh) xs k).2 ≤ 1000000000000000) :
    ∃ w h', ACall Tryz.prog 103 [v, .int .i64 k] h w h' ∧ w = .int .i64 (mrkL (Sh.mkd proofSh) xs k).2 ∧ h'.wf ∧ h.Le h' := by
  have hn : (xs.length : Int) ≤ 1000000000000000 := by have := mrkL_cn (Sh.mkd_cn proofSh) xs k; have := len_le_sum (c := Sh.cn proofSh) (xs := xs) (fun x => by simp only [Sh.cn]; omega); omega
  obtain ⟨a, c, rfl⟩ := hx.isSlice
  rw [mrkL_len] at hx ⊢
  refine acall_q fun Q HQ => ?_
  refine acall_vc (fun _ => false) (fun r => match r with | 10 => [(0, 0, []), (1, 0, []), (2, 0, []), (3, 0, []), (5, 0, []), (4, 1, []), (6, 3, [4]), (7, 0, [])] | _ => []) (fun _ => hdLp proofSh h xs k (.slice a xs.length c)) mixed Tryz.func103 rfl rfl rfl (Nat.le_of_ble_eq_true rfl) ?_ ?_
  · (refine vc_mp (by kernel_rfl : (Qlh (∀ (i : Nat × Int × AHeap), Qn5 h xs k i → bs (decide (Qm5 i < (↑(List.length xs) : Int))) (∃ (l r : Nat), Qn3 a l r i xs (∃ (x : Int), Qm7 i l r x (decide (x = Qm2 i)) (∃ (l r : Nat), Qn3 a l r i xs (∃ (x : Int), Qn4 i l r 1 x (decide (x = Qmc i)) (∃ (l r : Nat), Qn3 a l r i xs (∃ (x : ByteArray), Qm6 i l r 2 (Qml x) (∃ (x_1 : ByteArray) (h' : AHeap), Qmn (Qn1 (Qm2 i)) i x_1 h' (∃ (x_2 : ByteArray), Qmp h' l r i 2 (Qml x_2) (Value.string x_2 = Value.string x)) (decide (x = x_1)) (∃ (l r : Nat), Qn3 a l r i xs (∃ (a_2 : Option Addr) (n c_1 : Nat), Qmp h' l r i 3 [Value.slice a_2 n c_1] (∃ (x : Int) (h'_1 : AHeap), Qmz 142 a_2 n c_1 (Qmc i) h' x h'_1 (bs (decide (x < 0)) False (∃ (j : Nat × Int × AHeap), Qm8 (Qmr a xs c) x j i h'_1 (Qn5 h xs k j) (List.length xs) (∀ (k : AHeap), Qma k h) (∀ (v : Value) (h : AHeap), Qlu))))))))))))) (∃ (j : AHeap), Qm3 i (Qmu xs k) j h)) (Qn2 (Qlg Qli ∧ True ∧ True ∧ True ∧ Qli ∧ True))) = _) ?_; delta Qlg Qlh Qli Qlj Qlq Qls Qlu Qlz Qm1 Qm2 Qm3 Qm4 Qm5 Qm6 Qm7 Qm8 Qm9 Qma Qmc Qml Qmm Qmn Qmp Qmr Qmu Qmy Qmz Qn1 Qn2 Qn3 Qn4 Qn5)
    simp only [true_and, and_true]
    rintro ⟨i, ki, g⟩ I
    dsimp only at *
    have hi := I.hi
    have k0 := I.k0
    refine bs_d (fun hlt => ?_) (fun hge => ?_)
    · obtain ⟨x, hat⟩ : ∃ y : Sh.T proofSh, xs[i]? = some y := ⟨_, List.getElem?_eq_getElem (by omega)⟩
      have bd : (mrkL (Sh.mkd Sh.int) x.2.2.2 (ki + 1 + 1 + 1)).2 ≤ 1000000000000000 := I.bound hat hb
      have q1 := Sh.mrkL_le Sh.int x.2.2.2 (ki + 1 + 1 + 1)
      obtain ⟨l, r, row, ha, _, hrd, hld⟩ := (hx.mono I.le).elem (I.at hat)
      obtain ⟨v1, rfl, s1⟩ := rd_proof.1 hrd
      have hld : g.ld l (r + i) 0 4 = some [.int .i64 (ki), .int .i64 (ki + 1), .string (mtext (ki + 1 + 1)), v1] := hld
      have s1 : Sl g Sh.int (mrkL (Sh.mkd Sh.int) x.2.2.2 (ki + 1 + 1 + 1)).1 v1 := s1
      obtain ⟨a1, c1, rfl⟩ := s1.isSlice
      refine ⟨l, r, ha, Int.natCast_nonneg _, hlt, _, ld_cells (k := 0) (m := 1) hld (Nat.le_of_ble_eq_true rfl), bs_dn (fun e => absurd rfl e) (fun _ => ?_)⟩
      try rw [wrap_i64 (n := ki + 1) (by omega)]
      refine ⟨l, r, ha, Int.natCast_nonneg _, hlt, _, ld_cells (k := 1) (m := 1) hld (Nat.le_of_ble_eq_true rfl), bs_dn (fun e => absurd rfl e) (fun _ => ?_)⟩
      try rw [wrap_i64 (n := ki + 1 + 1) (by omega)]
      obtain ⟨_, t1, A1, lt1, wt1, rfl⟩ := mt_spec (ki + 1 + 1) _ I.wf (by omega)
      refine ⟨l, r, ha, Int.natCast_nonneg _, hlt, _, ld_cells (k := 2) (m := 1) hld (Nat.le_of_ble_eq_true rfl), _, _, A1, ⟨_, lt1.ld (ld_cells (k := 2) (m := 1) hld (Nat.le_of_ble_eq_true rfl)), rfl⟩, bs_dn (fun e => absurd rfl e) (fun _ => ?_)⟩
      have hld := lt1.ld hld
      have s1 := s1.mono lt1
      try rw [wrap_i64 (n := ki + 1 + 1 + 1) (by omega)]
      obtain ⟨_, t2, A2, rfl, wt2, lt2⟩ := hdInt64S _ wt1 x.2.2.2 _ (ki + 1 + 1 + 1) s1 (by omega) (by omega)
      refine ⟨l, r, ha, Int.natCast_nonneg _, hlt, _, _, _, ld_cells (k := 3) (m := 1) hld (Nat.le_of_ble_eq_true rfl), _, _, A2, bs_d (fun e => absurd e (by omega)) (fun _ => ?_)⟩
      have hld := lt2.ld hld
      have s1 := s1.mono lt2
      exact ⟨(i + 1, (Sh.mkd proofSh x ki).2, _), rfl, by rw [wrap_i64 (by omega)] <;> rfl, rfl, I.step hat wt2 (lt1.trans lt2), by dsimp only; omega, fun _ h => h, fun _ _ h => h⟩
    · exact ⟨g, by rw [I.finish (by omega)], rfl, I.wf, I.le⟩
  · (refine vc_mp (by kernel_rfl : (∃ (i : Nat × Int × AHeap), Qmd (Qmr a xs c) k i h (Qn5 h xs k i) (∀ (j : AHeap), Qm9 j h → Q (Qlj (Qmu xs k)) j) (∀ (v : Value) (h : AHeap), False → Q v h)) = _) ?_; delta Qlj Qm0 Qm1 Qm2 Qm5 Qm9 Qmd Qmr Qmu Qn5)
    exact ⟨(0, k, h), rfl, rfl, rfl, rfl, .start hw hk, fun j hj => HQ _ _ ⟨rfl, hj⟩, fun _ _ h => h.elim⟩
def Qn6 (a : Qoh) (b : Qoq) (c : Nat) := Value.slice a (List.length b) c
def Qn7 (a : Qoq) (b : Int) := Prod.fst (mrkL (Sh.mkd changeSh) a b)
def Qn8 (a : Qor) := Prod.fst (Prod.snd (Prod.snd a))
def Qn9 (a : Qoq) (b : Int) := Prod.snd (mrkL (Sh.mkd changeSh) a b)
def Qna (a : Qor) := Prod.fst (Prod.snd a)
def Qnb (a : Qor) := (↑(Prod.fst a) : Int)
def Qnc (a : Qoh) (b c : Nat) (d : Qor) (e : Qoq) (f : Prop) := Qlq (Qlz a b c 3) (Qnb d) (List.length e) f
def Qnd (a : Qof) (b : Qoq) (c : Int) (d : Qoh) (e : Nat) (f : Qog) (g : Qor) := MkI changeSh a b c (Qn6 d b e) f (Prod.fst g) (Qna g) (Qn8 g) (Prod.snd (Prod.snd (Prod.snd g)))
theorem mkChangeS (h : AHeap) (hw : h.wf) (xs : List (Sh.T changeSh)) (v : Value) (ids : List Nat) (so : So h changeSh xs v ids) (nd : ids.Nodup) (k : Int) (hk : 0 ≤ k) (hb : (mrkL (Sh.mkd changeSh) xs k).2 ≤ 1000000000000000) :
    ∃ w h', ACall Tryz.prog 45 [v, .int .i64 k] h w h' ∧ w = .int .i64 (mrkL (Sh.mkd changeSh) xs k).2 ∧ h'.wf ∧ Out ids h h' ∧ So h' changeSh (mrkL (Sh.mkd changeSh) xs k).1 v ids := by
  have hn : (xs.length : Int) ≤ 1000000000000000 := by have := mrkL_cn (Sh.mkd_cn changeSh) xs k; have := len_le_sum (c := Sh.cn changeSh) (xs := xs) (fun x => by simp only [Sh.cn]; omega); omega
  obtain ⟨a, c, rfl⟩ := so.sl.isSlice
  refine acall_q fun Q HQ => ?_
  refine acall_vc (fun _ => false) (fun _ => []) (fun _ => mkLp changeSh h xs k (.slice a xs.length c) ids) mixed Tryz.func45 rfl rfl rfl (Nat.le_of_ble_eq_true rfl) ?_ ?_
  · (refine vc_mp (by kernel_rfl : (Qlh (∀ (i : Nat × Int × AHeap × List (Sh.T changeSh)), Qnd h xs k a c ids i → bs (decide (Qnb i < (↑(List.length xs) : Int))) (∃ (l r : Nat), Qnc a l r i xs (∃ (h' : AHeap), Qlr (Qn8 i) l r (Qnb i) 0 [Qlj (Qna i)] h' (∃ (l r : Nat), Qnc a l r i xs (∃ (h'_1 : AHeap), Qlr h' l r (Qnb i) 1 [Qlj (Qls (Qna i))] h'_1 (∃ (l r : Nat), Qnc a l r i xs (∃ (a_2 : Option Addr) (n c_1 : Nat), Qm4 h'_1 l r (Qnb i) 2 = some [Value.slice a_2 n c_1] ∧ (∃ (x : Int) (h' : AHeap), Qmz 102 a_2 n c_1 (Qna i) h'_1 x h' (∃ (j : Nat × Int × AHeap × List (Sh.T changeSh)), Qlt (Qn6 a xs c) x (Qna j) (Qnb i) (Qnb j) (Qn8 j) h' (Qnd h xs k a c ids j) (List.length xs) (Prod.fst j) (Prod.fst i) (∀ (k_1 : AHeap), Qlw k_1 ids h (So k_1 changeSh (Qn7 xs k) (Qn6 a xs c) ids)) (∀ (v : Value) (h : AHeap), Qlu))))))))) (∃ (j : AHeap), Qlk (Qna i) (Qn9 xs k) j (Qn8 i) ids h (So j changeSh (Qn7 xs k) (Qn6 a xs c) ids))) (Qmq True)) = _) ?_; delta Qlg Qlh Qlj Qlk Qlq Qlr Qls Qlt Qlu Qlv Qlw Qlz Qm4 Qmq Qmy Qmz Qn6 Qn7 Qn8 Qn9 Qna Qnb Qnc Qnd)
    simp only [true_and, and_true]
    rintro ⟨i, ki, g, ys⟩ I
    dsimp only at *
    have hi := I.hi
    have k0 := I.k0
    refine bs_d (fun hlt => ?_) (fun hge => ?_)
    · obtain ⟨x, hx⟩ : ∃ y : Sh.T changeSh, xs[i]? = some y := ⟨_, List.getElem?_eq_getElem (by omega)⟩
      have bd : (mrkL (Sh.mkd proofSh) x.2.2 (ki + 1 + 1)).2 ≤ 1000000000000000 := I.bound hx hb
      obtain ⟨l, r, n', c', rows, cs, js, e, hin, E0, ro, hlj, ndj, hsub, fin⟩ := I.so.elem nd I.wf (I.at hx)
      cases e
      have q1 := Sh.mrkL_le proofSh x.2.2 (ki + 1 + 1)
      obtain ⟨v1, j1, rfl, rfl, s1⟩ := ro_change.1 ro
      obtain ⟨a1, c1, rfl⟩ := s1.sl.isSlice
      try simp only [List.mem_append, not_or, List.append_nil, List.nil_append, List.not_mem_nil, not_false_eq_true, true_and, and_true] at hlj
      try simp only [List.nodup_append, List.append_nil, List.nil_append, List.nodup_nil, List.not_mem_nil, List.mem_append, false_imp_iff, implies_true, true_and, and_true] at ndj
      obtain ⟨g1, w1, E1, o1⟩ := E0.wr 0 [.int .i64 (ki)] [.int .i64 (ki), .int .i64 x.2.1, _] (Nat.le_of_ble_eq_true rfl) rfl
      have s1 := s1.out o1 (nin1 hlj)
      refine ⟨l, r, rfl, Int.natCast_nonneg _, hlt, g1, w1, ?_⟩
      obtain ⟨g2, w2, E2, o2⟩ := E1.wr 1 [.int .i64 (ki + 1)] [.int .i64 (ki), .int .i64 (ki + 1), _] (Nat.le_of_ble_eq_true rfl) rfl
      have s1 := s1.out o2 (nin1 hlj)
      try rw [wrap_i64 (n := ki + 1) (by omega)]
      refine ⟨l, r, rfl, Int.natCast_nonneg _, hlt, g2, w2, ?_⟩
      try rw [wrap_i64 (n := ki + 1 + 1) (by omega)]
      obtain ⟨_, t1, A1, rfl, wt1, ot1, s1⟩ := mkProofS _ E2.wf x.2.2 _ _ s1 ndj (ki + 1 + 1) (by omega) (by omega)
      refine ⟨l, r, rfl, Int.natCast_nonneg _, hlt, _, _, _, E2.ld 2 1 (Nat.le_of_ble_eq_true rfl), _, _, A1, ?_⟩
      have F1' := E2.call ot1 wt1 hlj (by intro z hz; simp [hz])
      have so2 := fin _ _ (Sh.mkd changeSh x ki).1 F1' (ro_change.2 ⟨_, _, rfl, rfl, s1⟩)
      exact ⟨(i + 1, (Sh.mkd changeSh x ki).2, _, ys.set i (Sh.mkd changeSh x ki).1), rfl, by rw [wrap_i64 (by omega)] <;> rfl, rfl, I.step hx F1'.wf (F1'.out.widen hsub) so2, by dsimp only; omega, fun _ h => h, fun _ _ h => h⟩
    · obtain ⟨e1, e2⟩ := I.finish (by omega)
      exact ⟨g, by rw [e1], rfl, I.wf, I.out, e2⟩
  · (refine vc_mp (by kernel_rfl : (∃ (i : Nat × Int × AHeap × List (Sh.T changeSh)), Qm0 (Qn6 a xs c) k (Qna i) (Qnb i) (Qn8 i) h (Qnd h xs k a c ids i) (∀ (j : AHeap), Qlv j ids h (So j changeSh (Qn7 xs k) (Qn6 a xs c) ids) → Q (Qlj (Qn9 xs k)) j) (∀ (v : Value) (h : AHeap), False → Q v h)) = _) ?_; delta Qlj Qlv Qm0 Qn6 Qn7 Qn8 Qn9 Qna Qnb Qnd)
    exact ⟨(0, k, h, xs), rfl, rfl, rfl, rfl, .start hw hk so, fun j hj => HQ _ _ ⟨rfl, hj⟩, fun _ _ h => h.elim⟩
def Qne (a : Qoh) (b c : Nat) (d : Qol) (e : Qoq) (f : Prop) := Qlq (Qlz a b c 3) (Qm5 d) (List.length e) f
def Qnf (a : Qof) (b : Qoq) (c : Int) (d : Qol) := HdI changeSh a b c (Prod.fst d) (Qm2 d) (Qm1 d)
theorem hdChangeS (h : AHeap) (hw : h.wf) (xs : List (Sh.T changeSh)) (v : Value) (k : Int) (hx : Sl h changeSh (mrkL (Sh.mkd changeSh) xs k).1 v) (hk : 0 ≤ k) (hb : (mrkL (Sh.mkd changeSh) xs k).2 ≤ 1000000000000000) :
    ∃ w h', ACall Tryz.prog 48 [v, .int .i64 k] h w h' ∧ w = .int .i64 (mrkL (Sh.mkd changeSh) xs k).2 ∧ h'.wf ∧ h.Le h' := by
  have hn : (xs.length : Int) ≤ 1000000000000000 := by have := mrkL_cn (Sh.mkd_cn changeSh) xs k; have := len_le_sum (c := Sh.cn changeSh) (xs := xs) (fun x => by simp only [Sh.cn]; omega); omega
  obtain ⟨a, c, rfl⟩ := hx.isSlice
  rw [mrkL_len] at hx ⊢
  refine acall_q fun Q HQ => ?_
  refine acall_vc (fun _ => false) (fun _ => []) (fun _ => hdLp changeSh h xs k (.slice a xs.length c)) mixed Tryz.func48 rfl rfl rfl (Nat.le_of_ble_eq_true rfl) ?_ ?_
  · (refine vc_mp (by kernel_rfl : (Qlh (∀ (i : Nat × Int × AHeap), Qnf h xs k i → bs (decide (Qm5 i < (↑(List.length xs) : Int))) (∃ (l r : Nat), Qne a l r i xs (∃ (x : Int), Qm7 i l r x (decide (x = Qm2 i)) (∃ (l r : Nat), Qne a l r i xs (∃ (x : Int), Qn4 i l r 1 x (decide (x = Qmc i)) (∃ (l r : Nat), Qne a l r i xs (∃ (a_2 : Option Addr) (n c_1 : Nat), Qm6 i l r 2 [Value.slice a_2 n c_1] (∃ (x : Int) (h' : AHeap), Qmz 103 a_2 n c_1 (Qm2 i) (Qm1 i) x h' (bs (decide (x < 0)) False (∃ (j : Nat × Int × AHeap), Qm8 (Qn6 a xs c) x j i h' (Qnf h xs k j) (List.length xs) (∀ (k : AHeap), Qma k h) (∀ (v : Value) (h : AHeap), Qlu)))))))))) (∃ (j : AHeap), Qm3 i (Qn9 xs k) j h)) (Qn2 (True ∧ True ∧ Qli ∧ True))) = _) ?_; delta Qlg Qlh Qli Qlj Qlq Qls Qlu Qlz Qm1 Qm2 Qm3 Qm4 Qm5 Qm6 Qm7 Qm8 Qm9 Qma Qmc Qmy Qmz Qn2 Qn4 Qn6 Qn9 Qne Qnf)
    simp only [true_and, and_true]
    rintro ⟨i, ki, g⟩ I
    dsimp only at *
    have hi := I.hi
    have k0 := I.k0
    refine bs_d (fun hlt => ?_) (fun hge => ?_)
    · obtain ⟨x, hat⟩ : ∃ y : Sh.T changeSh, xs[i]? = some y := ⟨_, List.getElem?_eq_getElem (by omega)⟩
      have bd : (mrkL (Sh.mkd proofSh) x.2.2 (ki + 1 + 1)).2 ≤ 1000000000000000 := I.bound hat hb
      have q1 := Sh.mrkL_le proofSh x.2.2 (ki + 1 + 1)
      obtain ⟨l, r, row, ha, _, hrd, hld⟩ := (hx.mono I.le).elem (I.at hat)
      obtain ⟨v1, rfl, s1⟩ := rd_change.1 hrd
      have hld : g.ld l (r + i) 0 3 = some [.int .i64 (ki), .int .i64 (ki + 1), v1] := hld
      have s1 : Sl g proofSh (mrkL (Sh.mkd proofSh) x.2.2 (ki + 1 + 1)).1 v1 := s1
      obtain ⟨a1, c1, rfl⟩ := s1.isSlice
      refine ⟨l, r, ha, Int.natCast_nonneg _, hlt, _, ld_cells (k := 0) (m := 1) hld (Nat.le_of_ble_eq_true rfl), bs_dn (fun e => absurd rfl e) (fun _ => ?_)⟩
      try rw [wrap_i64 (n := ki + 1) (by omega)]
      refine ⟨l, r, ha, Int.natCast_nonneg _, hlt, _, ld_cells (k := 1) (m := 1) hld (Nat.le_of_ble_eq_true rfl), bs_dn (fun e => absurd rfl e) (fun _ => ?_)⟩
      try rw [wrap_i64 (n := ki + 1 + 1) (by omega)]
      obtain ⟨_, t1, A1, rfl, wt1, lt1⟩ := hdProofS _ I.wf x.2.2 _ (ki + 1 + 1) s1 (by omega) (by omega)
      refine ⟨l, r, ha, Int.natCast_nonneg _, hlt, _, _, _, ld_cells (k := 2) (m := 1) hld (Nat.le_of_ble_eq_true rfl), _, _, A1, bs_d (fun e => absurd e (by omega)) (fun _ => ?_)⟩
      have hld := lt1.ld hld
      have s1 := s1.mono lt1
      exact ⟨(i + 1, (Sh.mkd changeSh x ki).2, _), rfl, by rw [wrap_i64 (by omega)] <;> rfl, rfl, I.step hat wt1 lt1, by dsimp only; omega, fun _ h => h, fun _ _ h => h⟩
    · exact ⟨g, by rw [I.finish (by omega)], rfl, I.wf, I.le⟩
  · (refine vc_mp (by kernel_rfl : (∃ (i : Nat × Int × AHeap), Qmd (Qn6 a xs c) k i h (Qnf h xs k i) (∀ (j : AHeap), Qm9 j h → Q (Qlj (Qn9 xs k)) j) (∀ (v : Value) (h : AHeap), False → Q v h)) = _) ?_; delta Qlj Qm0 Qm1 Qm2 Qm5 Qm9 Qmd Qn6 Qn9 Qnf)
    exact ⟨(0, k, h), rfl, rfl, rfl, rfl, .start hw hk, fun j hj => HQ _ _ ⟨rfl, hj⟩, fun _ _ h => h.elim⟩
def Qng (a : Qoh) (b : Qos) (c : Nat) := Value.slice a (List.length b) c
def Qnh (a : Qos) (b : Int) := Prod.fst (mrkL (Sh.mkd saySh) a b)
def Qni (a : Qot) := Prod.fst (Prod.snd (Prod.snd a))
def Qnj (a : Qos) (b : Int) := Prod.snd (mrkL (Sh.mkd saySh) a b)
def Qnk (a : Qot) := Prod.fst (Prod.snd a)
def Qnl (a : Qot) := (↑(Prod.fst a) : Int)
def Qnm (a : Qoh) (b c : Nat) (d : Qot) (e : Qos) (f : Prop) := Qlq (Qlz a b c 6) (Qnl d) (List.length e) f
def Qnn (a : Qof) (b : Qos) (c : Int) (d : Qoh) (e : Nat) (f : Qog) (g : Qot) := MkI saySh a b c (Qng d b e) f (Prod.fst g) (Qnk g) (Qni g) (Prod.snd (Prod.snd (Prod.snd g)))
theorem mkSayS (h : AHeap) (hw : h.wf) (xs : List (Sh.T saySh)) (v : Value) (ids : List Nat) (so : So h saySh xs v ids) (nd : ids.Nodup) (k : Int) (hk : 0 ≤ k) (hb : (mrkL (Sh.mkd saySh) xs k).2 ≤ 1000000000000000) :
    ∃ w h', ACall Tryz.prog 14 [v, .int .i64 k] h w h' ∧ w = .int .i64 (mrkL (Sh.mkd saySh) xs k).2 ∧ h'.wf ∧ Out ids h h' ∧ So h' saySh (mrkL (Sh.mkd saySh) xs k).1 v ids := by
  have hn : (xs.length : Int) ≤ 1000000000000000 := by have := mrkL_cn (Sh.mkd_cn saySh) xs k; have := len_le_sum (c := Sh.cn saySh) (xs := xs) (fun x => by simp only [Sh.cn]; omega); omega
  obtain ⟨a, c, rfl⟩ := so.sl.isSlice
  refine acall_q fun Q HQ => ?_
  refine acall_vc (fun _ => false) (fun _ => []) (fun _ => mkLp saySh h xs k (.slice a xs.length c) ids) mixed Tryz.func14 rfl rfl rfl (Nat.le_of_ble_eq_true rfl) ?_ ?_
  · (refine vc_mp (by kernel_rfl : (Qlh (∀ (i : Nat × Int × AHeap × List (Sh.T saySh)), Qnn h xs k a c ids i → bs (decide (Qnl i < (↑(List.length xs) : Int))) (∃ (l r : Nat), Qnm a l r i xs (∃ (h' : AHeap), Qlr (Qni i) l r (Qnl i) 0 [Qlj (Qnk i)] h' (∃ (l r : Nat), Qnm a l r i xs (∃ (h'_1 : AHeap), Qlr h' l r (Qnl i) 1 [Qlj (Qls (Qnk i))] h'_1 (∃ (l r : Nat), Qnm a l r i xs (∃ (h' : AHeap), Qlr h'_1 l r (Qnl i) 2 (Qn1 (Qnk i)) h' (∃ (l r : Nat), Qnm a l r i xs (∃ (h'_2 : AHeap), Qlr h' l r (Qnl i) 3 (Qn1 (Qls (Qnk i))) h'_2 (∃ (x : ByteArray) (h' : AHeap), Qmm (Qn1 (Qmy (Qnk i))) h'_2 x h' ∧ (∃ (l r : Nat), Qnm a l r i xs (∃ (h'_3 : AHeap), Qlr h' l r (Qnl i) 4 (Qml x) h'_3 (∃ (l r : Nat), Qnm a l r i xs (∃ (a_2 : Option Addr) (n c_1 : Nat), Qm4 h'_3 l r (Qnl i) 5 = some [Value.slice a_2 n c_1] ∧ (∃ (x : Int) (h' : AHeap), Qmz 45 a_2 n c_1 (Qmy (Qls (Qnk i))) h'_3 x h' (∃ (j : Nat × Int × AHeap × List (Sh.T saySh)), Qlt (Qng a xs c) x (Qnk j) (Qnl i) (Qnl j) (Qni j) h' (Qnn h xs k a c ids j) (List.length xs) (Prod.fst j) (Prod.fst i) (∀ (k_1 : AHeap), Qlw k_1 ids h (So k_1 saySh (Qnh xs k) (Qng a xs c) ids)) (∀ (v : Value) (h : AHeap), Qlu)))))))))))))))) (∃ (j : AHeap), Qlk (Qnk i) (Qnj xs k) j (Qni i) ids h (So j saySh (Qnh xs k) (Qng a xs c) ids))) (Qmq (Qmq (Qlg True)))) = _) ?_; delta Qlg Qlh Qlj Qlk Qlq Qlr Qls Qlt Qlu Qlv Qlw Qlz Qm4 Qml Qmm Qmq Qmy Qmz Qn1 Qng Qnh Qni Qnj Qnk Qnl Qnm Qnn)
    simp only [true_and, and_true]
    rintro ⟨i, ki, g, ys⟩ I
    dsimp only at *
    have hi := I.hi
    have k0 := I.k0
    refine bs_d (fun hlt => ?_) (fun hge => ?_)
    · obtain ⟨x, hx⟩ : ∃ y : Sh.T saySh, xs[i]? = some y := ⟨_, List.getElem?_eq_getElem (by omega)⟩
      have bd : (mrkL (Sh.mkd changeSh) x.2.2.2.2.2 (ki + 1 + 1 + 1 + 1 + 1)).2 ≤ 1000000000000000 := I.bound hx hb
      obtain ⟨l, r, n', c', rows, cs, js, e, hin, E0, ro, hlj, ndj, hsub, fin⟩ := I.so.elem nd I.wf (I.at hx)
      cases e
      have q1 := Sh.mrkL_le changeSh x.2.2.2.2.2 (ki + 1 + 1 + 1 + 1 + 1)
      obtain ⟨v1, j1, rfl, rfl, s1⟩ := ro_say.1 ro
      obtain ⟨a1, c1, rfl⟩ := s1.sl.isSlice
      try simp only [List.mem_append, not_or, List.append_nil, List.nil_append, List.not_mem_nil, not_false_eq_true, true_and, and_true] at hlj
      try simp only [List.nodup_append, List.append_nil, List.nil_append, List.nodup_nil, List.not_mem_nil, List.mem_append, false_imp_iff, implies_true, true_and, and_true] at ndj
      obtain ⟨g1, w1, E1, o1⟩ := E0.wr 0 [.int .i64 (ki)] [.int .i64 (ki), .int .i64 x.2.1, .int .i64 x.2.2.1, .int .i64 x.2.2.2.1, .string x.2.2.2.2.1, _] (Nat.le_of_ble_eq_true rfl) rfl
      have s1 := s1.out o1 (nin1 hlj)
      refine ⟨l, r, rfl, Int.natCast_nonneg _, hlt, g1, w1, ?_⟩
      obtain ⟨g2, w2, E2, o2⟩ := E1.wr 1 [.int .i64 (ki + 1)] [.int .i64 (ki), .int .i64 (ki + 1), .int .i64 x.2.2.1, .int .i64 x.2.2.2.1, .string x.2.2.2.2.1, _] (Nat.le_of_ble_eq_true rfl) rfl
      have s1 := s1.out o2 (nin1 hlj)
      try rw [wrap_i64 (n := ki + 1) (by omega)]
      refine ⟨l, r, rfl, Int.natCast_nonneg _, hlt, g2, w2, ?_⟩
      obtain ⟨g3, w3, E3, o3⟩ := E2.wr 2 [.int .i64 (ki + 1 + 1)] [.int .i64 (ki), .int .i64 (ki + 1), .int .i64 (ki + 1 + 1), .int .i64 x.2.2.2.1, .string x.2.2.2.2.1, _] (Nat.le_of_ble_eq_true rfl) rfl
      have s1 := s1.out o3 (nin1 hlj)
      try rw [wrap_i64 (n := ki + 1 + 1) (by omega)]
      refine ⟨l, r, rfl, Int.natCast_nonneg _, hlt, g3, w3, ?_⟩
      obtain ⟨g4, w4, E4, o4⟩ := E3.wr 3 [.int .i64 (ki + 1 + 1 + 1)] [.int .i64 (ki), .int .i64 (ki + 1), .int .i64 (ki + 1 + 1), .int .i64 (ki + 1 + 1 + 1), .string x.2.2.2.2.1, _] (Nat.le_of_ble_eq_true rfl) rfl
      have s1 := s1.out o4 (nin1 hlj)
      try rw [wrap_i64 (n := ki + 1 + 1 + 1) (by omega)]
      refine ⟨l, r, rfl, Int.natCast_nonneg _, hlt, g4, w4, ?_⟩
      obtain ⟨_, t1, A1, lt1, wt1, rfl⟩ := mt_spec (ki + 1 + 1 + 1 + 1) _ E4.wf (by omega)
      have E4 := E4.le lt1 wt1
      have s1 := So.le lt1 s1
      obtain ⟨g5, w5, E5, o5⟩ := E4.wr 4 [.string (mtext (ki + 1 + 1 + 1 + 1))] [.int .i64 (ki), .int .i64 (ki + 1), .int .i64 (ki + 1 + 1), .int .i64 (ki + 1 + 1 + 1), .string (mtext (ki + 1 + 1 + 1 + 1)), _] (Nat.le_of_ble_eq_true rfl) rfl
      have s1 := s1.out o5 (nin1 hlj)
      try rw [wrap_i64 (n := ki + 1 + 1 + 1 + 1) (by omega)]
      refine ⟨_, _, A1, l, r, rfl, Int.natCast_nonneg _, hlt, g5, w5, ?_⟩
      try rw [wrap_i64 (n := ki + 1 + 1 + 1 + 1 + 1) (by omega)]
      obtain ⟨_, t2, A2, rfl, wt2, ot2, s1⟩ := mkChangeS _ E5.wf x.2.2.2.2.2 _ _ s1 ndj (ki + 1 + 1 + 1 + 1 + 1) (by omega) (by omega)
      refine ⟨l, r, rfl, Int.natCast_nonneg _, hlt, _, _, _, E5.ld 5 1 (Nat.le_of_ble_eq_true rfl), _, _, A2, ?_⟩
      have F2' := E5.call ot2 wt2 hlj (by intro z hz; simp [hz])
      have so2 := fin _ _ (Sh.mkd saySh x ki).1 F2' (ro_say.2 ⟨_, _, rfl, rfl, s1⟩)
      exact ⟨(i + 1, (Sh.mkd saySh x ki).2, _, ys.set i (Sh.mkd saySh x ki).1), rfl, by rw [wrap_i64 (by omega)] <;> rfl, rfl, I.step hx F2'.wf (F2'.out.widen hsub) so2, by dsimp only; omega, fun _ h => h, fun _ _ h => h⟩
    · obtain ⟨e1, e2⟩ := I.finish (by omega)
      exact ⟨g, by rw [e1], rfl, I.wf, I.out, e2⟩
  · (refine vc_mp (by kernel_rfl : (∃ (i : Nat × Int × AHeap × List (Sh.T saySh)), Qm0 (Qng a xs c) k (Qnk i) (Qnl i) (Qni i) h (Qnn h xs k a c ids i) (∀ (j : AHeap), Qlv j ids h (So j saySh (Qnh xs k) (Qng a xs c) ids) → Q (Qlj (Qnj xs k)) j) (∀ (v : Value) (h : AHeap), False → Q v h)) = _) ?_; delta Qlj Qlv Qm0 Qng Qnh Qni Qnj Qnk Qnl Qnn)
    exact ⟨(0, k, h, xs), rfl, rfl, rfl, rfl, .start hw hk so, fun j hj => HQ _ _ ⟨rfl, hj⟩, fun _ _ h => h.elim⟩
def Qno (a : Qoh) (b c : Nat) (d : Qol) (e : Qos) (f : Prop) := Qlq (Qlz a b c 6) (Qm5 d) (List.length e) f
def Qnp (a : Qof) (b : Qos) (c : Int) (d : Qol) := HdI saySh a b c (Prod.fst d) (Qm2 d) (Qm1 d)
theorem hdSayS (h : AHeap) (hw : h.wf) (xs : List (Sh.T saySh)) (v : Value) (k : Int) (hx : Sl h saySh (mrkL (Sh.mkd saySh) xs k).1 v) (hk : 0 ≤ k) (hb : (mrkL (Sh.mkd saySh) xs k).2 ≤ 1000000000000000) :
    ∃ w h', ACall Tryz.prog 15 [v, .int .i64 k] h w h' ∧ w = .int .i64 (mrkL (Sh.mkd saySh) xs k).2 ∧ h'.wf ∧ h.Le h' := by
  have hn : (xs.length : Int) ≤ 1000000000000000 := by have := mrkL_cn (Sh.mkd_cn saySh) xs k; have := len_le_sum (c := Sh.cn saySh) (xs := xs) (fun x => by simp only [Sh.cn]; omega); omega
  obtain ⟨a, c, rfl⟩ := hx.isSlice
  rw [mrkL_len] at hx ⊢
  refine acall_q fun Q HQ => ?_
  refine acall_vc (fun _ => false) (fun r => match r with | 16 => [(0, 0, []), (1, 0, []), (2, 0, []), (3, 0, []), (5, 0, []), (4, 1, []), (6, 3, [4]), (7, 0, [])] | _ => []) (fun _ => hdLp saySh h xs k (.slice a xs.length c)) mixed Tryz.func15 rfl rfl rfl (Nat.le_of_ble_eq_true rfl) ?_ ?_
  · (refine vc_mp (by kernel_rfl : (Qlh (∀ (i : Nat × Int × AHeap), Qnp h xs k i → bs (decide (Qm5 i < (↑(List.length xs) : Int))) (∃ (l r : Nat), Qno a l r i xs (∃ (x : Int), Qm7 i l r x (decide (x = Qm2 i)) (∃ (l r : Nat), Qno a l r i xs (∃ (x : Int), Qn4 i l r 1 x (decide (x = Qmc i)) (∃ (l r : Nat), Qno a l r i xs (∃ (x : Int), Qn4 i l r 2 x (decide (x = Qmy (Qm2 i))) (∃ (l r : Nat), Qno a l r i xs (∃ (x : Int), Qn4 i l r 3 x (decide (x = Qmy (Qmc i))) (∃ (l r : Nat), Qno a l r i xs (∃ (x : ByteArray), Qm6 i l r 4 (Qml x) (∃ (x_1 : ByteArray) (h' : AHeap), Qmn (Qn1 (Qmy (Qm2 i))) i x_1 h' (∃ (x_2 : ByteArray), Qmp h' l r i 4 (Qml x_2) (Value.string x_2 = Value.string x)) (decide (x = x_1)) (∃ (l r : Nat), Qno a l r i xs (∃ (a_2 : Option Addr) (n c_1 : Nat), Qmp h' l r i 5 [Value.slice a_2 n c_1] (∃ (x : Int) (h'_1 : AHeap), Qmz 48 a_2 n c_1 (Qmy (Qmc i)) h' x h'_1 (bs (decide (x < 0)) False (∃ (j : Nat × Int × AHeap), Qm8 (Qng a xs c) x j i h'_1 (Qnp h xs k j) (List.length xs) (∀ (k : AHeap), Qma k h) (∀ (v : Value) (h : AHeap), Qlu))))))))))))))))) (∃ (j : AHeap), Qm3 i (Qnj xs k) j h)) (Qn2 (Qn2 (Qlg Qli ∧ True ∧ True ∧ True ∧ Qli ∧ True)))) = _) ?_; delta Qlg Qlh Qli Qlj Qlq Qls Qlu Qlz Qm1 Qm2 Qm3 Qm4 Qm5 Qm6 Qm7 Qm8 Qm9 Qma Qmc Qml Qmm Qmn Qmp Qmy Qmz Qn1 Qn2 Qn4 Qng Qnj Qno Qnp)
    simp only [true_and, and_true]
    rintro ⟨i, ki, g⟩ I
    dsimp only at *
    have hi := I.hi
    have k0 := I.k0
    refine bs_d (fun hlt => ?_) (fun hge => ?_)
    · obtain ⟨x, hat⟩ : ∃ y : Sh.T saySh, xs[i]? = some y := ⟨_, List.getElem?_eq_getElem (by omega)⟩
      have bd : (mrkL (Sh.mkd changeSh) x.2.2.2.2.2 (ki + 1 + 1 + 1 + 1 + 1)).2 ≤ 1000000000000000 := I.bound hat hb
      have q1 := Sh.mrkL_le changeSh x.2.2.2.2.2 (ki + 1 + 1 + 1 + 1 + 1)
      obtain ⟨l, r, row, ha, _, hrd, hld⟩ := (hx.mono I.le).elem (I.at hat)
      obtain ⟨v1, rfl, s1⟩ := rd_say.1 hrd
      have hld : g.ld l (r + i) 0 6 = some [.int .i64 (ki), .int .i64 (ki + 1), .int .i64 (ki + 1 + 1), .int .i64 (ki + 1 + 1 + 1), .string (mtext (ki + 1 + 1 + 1 + 1)), v1] := hld
      have s1 : Sl g changeSh (mrkL (Sh.mkd changeSh) x.2.2.2.2.2 (ki + 1 + 1 + 1 + 1 + 1)).1 v1 := s1
      obtain ⟨a1, c1, rfl⟩ := s1.isSlice
      refine ⟨l, r, ha, Int.natCast_nonneg _, hlt, _, ld_cells (k := 0) (m := 1) hld (Nat.le_of_ble_eq_true rfl), bs_dn (fun e => absurd rfl e) (fun _ => ?_)⟩
      try rw [wrap_i64 (n := ki + 1) (by omega)]
      refine ⟨l, r, ha, Int.natCast_nonneg _, hlt, _, ld_cells (k := 1) (m := 1) hld (Nat.le_of_ble_eq_true rfl), bs_dn (fun e => absurd rfl e) (fun _ => ?_)⟩
      try rw [wrap_i64 (n := ki + 1 + 1) (by omega)]
      refine ⟨l, r, ha, Int.natCast_nonneg _, hlt, _, ld_cells (k := 2) (m := 1) hld (Nat.le_of_ble_eq_true rfl), bs_dn (fun e => absurd rfl e) (fun _ => ?_)⟩
      try rw [wrap_i64 (n := ki + 1 + 1 + 1) (by omega)]
      refine ⟨l, r, ha, Int.natCast_nonneg _, hlt, _, ld_cells (k := 3) (m := 1) hld (Nat.le_of_ble_eq_true rfl), bs_dn (fun e => absurd rfl e) (fun _ => ?_)⟩
      try rw [wrap_i64 (n := ki + 1 + 1 + 1 + 1) (by omega)]
      obtain ⟨_, t1, A1, lt1, wt1, rfl⟩ := mt_spec (ki + 1 + 1 + 1 + 1) _ I.wf (by omega)
      refine ⟨l, r, ha, Int.natCast_nonneg _, hlt, _, ld_cells (k := 4) (m := 1) hld (Nat.le_of_ble_eq_true rfl), _, _, A1, ⟨_, lt1.ld (ld_cells (k := 4) (m := 1) hld (Nat.le_of_ble_eq_true rfl)), rfl⟩, bs_dn (fun e => absurd rfl e) (fun _ => ?_)⟩
      have hld := lt1.ld hld
      have s1 := s1.mono lt1
      try rw [wrap_i64 (n := ki + 1 + 1 + 1 + 1 + 1) (by omega)]
      obtain ⟨_, t2, A2, rfl, wt2, lt2⟩ := hdChangeS _ wt1 x.2.2.2.2.2 _ (ki + 1 + 1 + 1 + 1 + 1) s1 (by omega) (by omega)
      refine ⟨l, r, ha, Int.natCast_nonneg _, hlt, _, _, _, ld_cells (k := 5) (m := 1) hld (Nat.le_of_ble_eq_true rfl), _, _, A2, bs_d (fun e => absurd e (by omega)) (fun _ => ?_)⟩
      have hld := lt2.ld hld
      have s1 := s1.mono lt2
      exact ⟨(i + 1, (Sh.mkd saySh x ki).2, _), rfl, by rw [wrap_i64 (by omega)] <;> rfl, rfl, I.step hat wt2 (lt1.trans lt2), by dsimp only; omega, fun _ h => h, fun _ _ h => h⟩
    · exact ⟨g, by rw [I.finish (by omega)], rfl, I.wf, I.le⟩
  · (refine vc_mp (by kernel_rfl : (∃ (i : Nat × Int × AHeap), Qmd (Qng a xs c) k i h (Qnp h xs k i) (∀ (j : AHeap), Qm9 j h → Q (Qlj (Qnj xs k)) j) (∀ (v : Value) (h : AHeap), False → Q v h)) = _) ?_; delta Qlj Qm0 Qm1 Qm2 Qm5 Qm9 Qmd Qng Qnj Qnp)
    exact ⟨(0, k, h), rfl, rfl, rfl, rfl, .start hw hk, fun j hj => HQ _ _ ⟨rfl, hj⟩, fun _ _ h => h.elim⟩
def Qnq (a : Qoh) (b : Qou) (c : Nat) := Value.slice a (List.length b) c
def Qnr (a : Qou) (b : Int) := Prod.fst (mrkL (Sh.mkd voteSh) a b)
def Qns (a : Qov) := Prod.fst (Prod.snd (Prod.snd a))
def Qnt (a : Qou) (b : Int) := Prod.snd (mrkL (Sh.mkd voteSh) a b)
def Qnu (a : Qov) := Prod.fst (Prod.snd a)
def Qnv (a : Qov) := (↑(Prod.fst a) : Int)
def Qnw (a : Qoh) (b c : Nat) (d : Qov) (e : Qou) (f : Prop) := Qlq (Qlz a b c 5) (Qnv d) (List.length e) f
def Qnx (a : Qof) (b : Qou) (c : Int) (d : Qoh) (e : Nat) (f : Qog) (g : Qov) := MkI voteSh a b c (Qnq d b e) f (Prod.fst g) (Qnu g) (Qns g) (Prod.snd (Prod.snd (Prod.snd g)))
theorem mkVoteS (h : AHeap) (hw : h.wf) (xs : List (Sh.T voteSh)) (v : Value) (ids : List Nat) (so : So h voteSh xs v ids) (nd : ids.Nodup) (k : Int) (hk : 0 ≤ k) (hb : (mrkL (Sh.mkd voteSh) xs k).2 ≤ 1000000000000000) :
    ∃ w h', ACall Tryz.prog 44 [v, .int .i64 k] h w h' ∧ w = .int .i64 (mrkL (Sh.mkd voteSh) xs k).2 ∧ h'.wf ∧ Out ids h h' ∧ So h' voteSh (mrkL (Sh.mkd voteSh) xs k).1 v ids := by
  have hn : (xs.length : Int) ≤ 1000000000000000 := by have := mrkL_cn (Sh.mkd_cn voteSh) xs k; have := len_le_sum (c := Sh.cn voteSh) (xs := xs) (fun x => by simp only [Sh.cn]; omega); omega
  obtain ⟨a, c, rfl⟩ := so.sl.isSlice
  refine acall_q fun Q HQ => ?_
  refine acall_vc (fun _ => false) (fun _ => []) (fun _ => mkLp voteSh h xs k (.slice a xs.length c) ids) mixed Tryz.func44 rfl rfl rfl (Nat.le_of_ble_eq_true rfl) ?_ ?_
  · (refine vc_mp (by kernel_rfl : (Qlh (∀ (i : Nat × Int × AHeap × List (Sh.T voteSh)), Qnx h xs k a c ids i → bs (decide (Qnv i < (↑(List.length xs) : Int))) (∃ (l r : Nat), Qnw a l r i xs (∃ (h' : AHeap), Qlr (Qns i) l r (Qnv i) 0 [Qlj (Qnu i)] h' (∃ (l r : Nat), Qnw a l r i xs (∃ (h'_1 : AHeap), Qlr h' l r (Qnv i) 1 [Qlj (Qls (Qnu i))] h'_1 (∃ (l r : Nat), Qnw a l r i xs (∃ (h' : AHeap), Qlr h'_1 l r (Qnv i) 2 (Qn1 (Qnu i)) h' (∃ (x : ByteArray) (h'_2 : AHeap), Qmm (Qn1 (Qls (Qnu i))) h' x h'_2 ∧ (∃ (l r : Nat), Qnw a l r i xs (∃ (h' : AHeap), Qlr h'_2 l r (Qnv i) 3 (Qml x) h' (∃ (l r : Nat), Qnw a l r i xs (∃ (h'_3 : AHeap), Qlr h' l r (Qnv i) 4 (Qn1 (Qmy (Qnu i))) h'_3 (∃ (j : Nat × Int × AHeap × List (Sh.T voteSh)), Qlt (Qnq a xs c) (Qmy (Qmy (Qls (Qnu i)))) (Qnu j) (Qnv i) (Qnv j) (Qns j) h'_3 (Qnx h xs k a c ids j) (List.length xs) (Prod.fst j) (Prod.fst i) (∀ (k_1 : AHeap), Qlw k_1 ids h (So k_1 voteSh (Qnr xs k) (Qnq a xs c) ids)) (∀ (v : Value) (h : AHeap), Qlu))))))))))))) (∃ (j : AHeap), Qlk (Qnu i) (Qnt xs k) j (Qns i) ids h (So j voteSh (Qnr xs k) (Qnq a xs c) ids))) (Qmq (Qmq Qli))) = _) ?_; delta Qlg Qlh Qli Qlj Qlk Qlq Qlr Qls Qlt Qlu Qlv Qlw Qlz Qml Qmm Qmq Qmy Qn1 Qnq Qnr Qns Qnt Qnu Qnv Qnw Qnx)
    simp only [true_and, and_true]
    rintro ⟨i, ki, g, ys⟩ I
    dsimp only at *
    have hi := I.hi
    have k0 := I.k0
    refine bs_d (fun hlt => ?_) (fun hge => ?_)
    · obtain ⟨x, hx⟩ : ∃ y : Sh.T voteSh, xs[i]? = some y := ⟨_, List.getElem?_eq_getElem (by omega)⟩
      have bd : ki + 1 + 1 + 1 + 1 + 1 ≤ 1000000000000000 := I.bound hx hb
      obtain ⟨l, r, n', c', rows, cs, js, e, hin, E0, ro, hlj, ndj, hsub, fin⟩ := I.so.elem nd I.wf (I.at hx)
      cases e
      obtain ⟨rfl, rfl⟩ := ro_vote.1 ro
      obtain ⟨g1, w1, E1, o1⟩ := E0.wr 0 [.int .i64 (ki)] [.int .i64 (ki), .int .i64 x.2.1, .int .i64 x.2.2.1, .string x.2.2.2.1, .int .i64 x.2.2.2.2] (Nat.le_of_ble_eq_true rfl) rfl
      refine ⟨l, r, rfl, Int.natCast_nonneg _, hlt, g1, w1, ?_⟩
      obtain ⟨g2, w2, E2, o2⟩ := E1.wr 1 [.int .i64 (ki + 1)] [.int .i64 (ki), .int .i64 (ki + 1), .int .i64 x.2.2.1, .string x.2.2.2.1, .int .i64 x.2.2.2.2] (Nat.le_of_ble_eq_true rfl) rfl
      try rw [wrap_i64 (n := ki + 1) (by omega)]
      refine ⟨l, r, rfl, Int.natCast_nonneg _, hlt, g2, w2, ?_⟩
      obtain ⟨g3, w3, E3, o3⟩ := E2.wr 2 [.int .i64 (ki + 1 + 1)] [.int .i64 (ki), .int .i64 (ki + 1), .int .i64 (ki + 1 + 1), .string x.2.2.2.1, .int .i64 x.2.2.2.2] (Nat.le_of_ble_eq_true rfl) rfl
      try rw [wrap_i64 (n := ki + 1 + 1) (by omega)]
      refine ⟨l, r, rfl, Int.natCast_nonneg _, hlt, g3, w3, ?_⟩
      obtain ⟨_, t1, A1, lt1, wt1, rfl⟩ := mt_spec (ki + 1 + 1 + 1) _ E3.wf (by omega)
      have E3 := E3.le lt1 wt1
      obtain ⟨g4, w4, E4, o4⟩ := E3.wr 3 [.string (mtext (ki + 1 + 1 + 1))] [.int .i64 (ki), .int .i64 (ki + 1), .int .i64 (ki + 1 + 1), .string (mtext (ki + 1 + 1 + 1)), .int .i64 x.2.2.2.2] (Nat.le_of_ble_eq_true rfl) rfl
      try rw [wrap_i64 (n := ki + 1 + 1 + 1) (by omega)]
      refine ⟨_, _, A1, l, r, rfl, Int.natCast_nonneg _, hlt, g4, w4, ?_⟩
      obtain ⟨g5, w5, E5, o5⟩ := E4.wr 4 [.int .i64 (ki + 1 + 1 + 1 + 1)] [.int .i64 (ki), .int .i64 (ki + 1), .int .i64 (ki + 1 + 1), .string (mtext (ki + 1 + 1 + 1)), .int .i64 (ki + 1 + 1 + 1 + 1)] (Nat.le_of_ble_eq_true rfl) rfl
      try rw [wrap_i64 (n := ki + 1 + 1 + 1 + 1) (by omega)]
      refine ⟨l, r, rfl, Int.natCast_nonneg _, hlt, g5, w5, ?_⟩
      try rw [wrap_i64 (n := ki + 1 + 1 + 1 + 1 + 1) (by omega)]
      have so2 := fin _ _ (Sh.mkd voteSh x ki).1 E5 (ro_vote.2 ⟨rfl, rfl⟩)
      exact ⟨(i + 1, (Sh.mkd voteSh x ki).2, _, ys.set i (Sh.mkd voteSh x ki).1), rfl, by rw [wrap_i64 (by omega)] <;> rfl, rfl, I.step hx E5.wf (E5.out.widen hsub) so2, by dsimp only; omega, fun _ h => h, fun _ _ h => h⟩
    · obtain ⟨e1, e2⟩ := I.finish (by omega)
      exact ⟨g, by rw [e1], rfl, I.wf, I.out, e2⟩
  · (refine vc_mp (by kernel_rfl : (∃ (i : Nat × Int × AHeap × List (Sh.T voteSh)), Qm0 (Qnq a xs c) k (Qnu i) (Qnv i) (Qns i) h (Qnx h xs k a c ids i) (∀ (j : AHeap), Qlv j ids h (So j voteSh (Qnr xs k) (Qnq a xs c) ids) → Q (Qlj (Qnt xs k)) j) (∀ (v : Value) (h : AHeap), False → Q v h)) = _) ?_; delta Qlj Qlv Qm0 Qnq Qnr Qns Qnt Qnu Qnv Qnx)
    exact ⟨(0, k, h, xs), rfl, rfl, rfl, rfl, .start hw hk so, fun j hj => HQ _ _ ⟨rfl, hj⟩, fun _ _ h => h.elim⟩
def Qny (a : Qoh) (b c : Nat) (d : Qol) (e : Qou) (f : Prop) := Qlq (Qlz a b c 5) (Qm5 d) (List.length e) f
def Qnz (a : Qof) (b : Qou) (c : Int) (d : Qol) := HdI voteSh a b c (Prod.fst d) (Qm2 d) (Qm1 d)
theorem hdVoteS (h : AHeap) (hw : h.wf) (xs : List (Sh.T voteSh)) (v : Value) (k : Int) (hx : Sl h voteSh (mrkL (Sh.mkd voteSh) xs k).1 v) (hk : 0 ≤ k) (hb : (mrkL (Sh.mkd voteSh) xs k).2 ≤ 1000000000000000) :
    ∃ w h', ACall Tryz.prog 114 [v, .int .i64 k] h w h' ∧ w = .int .i64 (mrkL (Sh.mkd voteSh) xs k).2 ∧ h'.wf ∧ h.Le h' := by
  have hn : (xs.length : Int) ≤ 1000000000000000 := by have := mrkL_cn (Sh.mkd_cn voteSh) xs k; have := len_le_sum (c := Sh.cn voteSh) (xs := xs) (fun x => by simp only [Sh.cn]; omega); omega
  obtain ⟨a, c, rfl⟩ := hx.isSlice
  rw [mrkL_len] at hx ⊢
  refine acall_q fun Q HQ => ?_
  refine acall_vc (fun _ => false) (fun r => match r with | 13 => [(0, 0, []), (1, 0, []), (2, 0, []), (3, 0, []), (5, 0, []), (4, 1, []), (6, 3, [4]), (7, 0, [])] | _ => []) (fun _ => hdLp voteSh h xs k (.slice a xs.length c)) mixed Tryz.func114 rfl rfl rfl (Nat.le_of_ble_eq_true rfl) ?_ ?_
  · (refine vc_mp (by kernel_rfl : (Qlh (∀ (i : Nat × Int × AHeap), Qnz h xs k i → bs (decide (Qm5 i < (↑(List.length xs) : Int))) (∃ (l r : Nat), Qny a l r i xs (∃ (x : Int), Qm7 i l r x (decide (x = Qm2 i)) (∃ (l r : Nat), Qny a l r i xs (∃ (x : Int), Qn4 i l r 1 x (decide (x = Qmc i)) (∃ (l r : Nat), Qny a l r i xs (∃ (x : Int), Qn4 i l r 2 x (decide (x = Qmy (Qm2 i))) (∃ (l r : Nat), Qny a l r i xs (∃ (x : ByteArray), Qm6 i l r 3 (Qml x) (∃ (x_1 : ByteArray) (h' : AHeap), Qmn (Qn1 (Qmc i)) i x_1 h' (∃ (x_2 : ByteArray), Qmp h' l r i 3 (Qml x_2) (Value.string x_2 = Value.string x)) (decide (x = x_1)) (∃ (l r : Nat), Qny a l r i xs (∃ (x : Int), Qmp h' l r i 4 [Qlj x] (bs (not (decide (x = Qmy (Qmy (Qm2 i))))) False (∃ (j : Nat × Int × AHeap), Qm8 (Qnq a xs c) (Qmy (Qmy (Qmc i))) j i h' (Qnz h xs k j) (List.length xs) (∀ (k : AHeap), Qma k h) (∀ (v : Value) (h : AHeap), Qlu)))))))))))))) (∃ (j : AHeap), Qm3 i (Qnt xs k) j h)) (Qn2 (Qn2 (Qlg Qli ∧ True)))) = _) ?_; delta Qlg Qlh Qli Qlj Qlq Qls Qlu Qlz Qm1 Qm2 Qm3 Qm4 Qm5 Qm6 Qm7 Qm8 Qm9 Qma Qmc Qml Qmm Qmn Qmp Qmy Qn1 Qn2 Qn4 Qnq Qnt Qny Qnz)
    simp only [true_and, and_true]
    rintro ⟨i, ki, g⟩ I
    dsimp only at *
    have hi := I.hi
    have k0 := I.k0
    refine bs_d (fun hlt => ?_) (fun hge => ?_)
    · obtain ⟨x, hat⟩ : ∃ y : Sh.T voteSh, xs[i]? = some y := ⟨_, List.getElem?_eq_getElem (by omega)⟩
      have bd : ki + 1 + 1 + 1 + 1 + 1 ≤ 1000000000000000 := I.bound hat hb
      obtain ⟨l, r, row, ha, _, hrd, hld⟩ := (hx.mono I.le).elem (I.at hat)
      obtain rfl := rd_vote.1 hrd
      have hld : g.ld l (r + i) 0 5 = some [.int .i64 (ki), .int .i64 (ki + 1), .int .i64 (ki + 1 + 1), .string (mtext (ki + 1 + 1 + 1)), .int .i64 (ki + 1 + 1 + 1 + 1)] := hld
      refine ⟨l, r, ha, Int.natCast_nonneg _, hlt, _, ld_cells (k := 0) (m := 1) hld (Nat.le_of_ble_eq_true rfl), bs_dn (fun e => absurd rfl e) (fun _ => ?_)⟩
      try rw [wrap_i64 (n := ki + 1) (by omega)]
      refine ⟨l, r, ha, Int.natCast_nonneg _, hlt, _, ld_cells (k := 1) (m := 1) hld (Nat.le_of_ble_eq_true rfl), bs_dn (fun e => absurd rfl e) (fun _ => ?_)⟩
      try rw [wrap_i64 (n := ki + 1 + 1) (by omega)]
      refine ⟨l, r, ha, Int.natCast_nonneg _, hlt, _, ld_cells (k := 2) (m := 1) hld (Nat.le_of_ble_eq_true rfl), bs_dn (fun e => absurd rfl e) (fun _ => ?_)⟩
      try rw [wrap_i64 (n := ki + 1 + 1 + 1) (by omega)]
      obtain ⟨_, t1, A1, lt1, wt1, rfl⟩ := mt_spec (ki + 1 + 1 + 1) _ I.wf (by omega)
      refine ⟨l, r, ha, Int.natCast_nonneg _, hlt, _, ld_cells (k := 3) (m := 1) hld (Nat.le_of_ble_eq_true rfl), _, _, A1, ⟨_, lt1.ld (ld_cells (k := 3) (m := 1) hld (Nat.le_of_ble_eq_true rfl)), rfl⟩, bs_dn (fun e => absurd rfl e) (fun _ => ?_)⟩
      have hld := lt1.ld hld
      try rw [wrap_i64 (n := ki + 1 + 1 + 1 + 1) (by omega)]
      refine ⟨l, r, ha, Int.natCast_nonneg _, hlt, _, ld_cells (k := 4) (m := 1) hld (Nat.le_of_ble_eq_true rfl), bs_dn (fun e => absurd rfl e) (fun _ => ?_)⟩
      try rw [wrap_i64 (n := ki + 1 + 1 + 1 + 1 + 1) (by omega)]
      exact ⟨(i + 1, (Sh.mkd voteSh x ki).2, _), rfl, by rw [wrap_i64 (by omega)] <;> rfl, rfl, I.step hat wt1 lt1, by dsimp only; omega, fun _ h => h, fun _ _ h => h⟩
    · exact ⟨g, by rw [I.finish (by omega)], rfl, I.wf, I.le⟩
  · (refine vc_mp (by kernel_rfl : (∃ (i : Nat × Int × AHeap), Qmd (Qnq a xs c) k i h (Qnz h xs k i) (∀ (j : AHeap), Qm9 j h → Q (Qlj (Qnt xs k)) j) (∀ (v : Value) (h : AHeap), False → Q v h)) = _) ?_; delta Qlj Qm0 Qm1 Qm2 Qm5 Qm9 Qmd Qnq Qnt Qnz)
    exact ⟨(0, k, h), rfl, rfl, rfl, rfl, .start hw hk, fun j hj => HQ _ _ ⟨rfl, hj⟩, fun _ _ h => h.elim⟩
def Qo0 (a : FuncId) (b : Value) (c : Int) (d : Qof) (e : Int) (f : Qof) (g : Prop) := ACall Tryz.prog a [b, Qlj c] d (Qlj e) f ∧ g
def Qo1 (a : Sh.T Sh.int × Sh.T Sh.int × Sh.T Sh.int × Sh.T Sh.int × Sh.T Sh.str × List (Sh.T changeSh)) := Prod.snd (Prod.snd (Prod.snd (Prod.snd (Prod.snd a))))
theorem mkSay (h : AHeap) (hw : h.wf) (x : saySh.T) (v1 : Value) (j1 : List Nat) (s1 : So h changeSh x.2.2.2.2.2 v1 j1) (nd : (j1).Nodup) (k : Int) (hk : 0 ≤ k) (hb : (saySh.mkv x k).2 ≤ 1000000000000000) :
    ∃ w h', ACall Tryz.prog 26 [.agg #[.int .i64 x.1, .int .i64 x.2.1, .int .i64 x.2.2.1, .int .i64 x.2.2.2.1, .string x.2.2.2.2.1, v1], .int .i64 k] h w h' ∧ w = .int .i64 (saySh.mkv x k).2 ∧ h'.wf ∧ Out (j1) h h' ∧ So h' changeSh (saySh.mkv x k).1.2.2.2.2.2 v1 j1 := by
  obtain ⟨a1, c1, rfl⟩ := s1.sl.isSlice
  have bd : (mrkL (Sh.mkd changeSh) x.2.2.2.2.2 k).2 ≤ 1000000000000000 := hb
  have q1 := Sh.mrkL_le changeSh x.2.2.2.2.2 k
  refine acall_q fun Q HQ => ?_
  obtain ⟨_, t1, A1, rfl, wt1, ot1, s1⟩ := mkChangeS h hw x.2.2.2.2.2 _ _ s1 nd k (by omega) (by omega)
  refine acall_vc (fun _ => false) (fun _ => []) (fun _ => .none) mixed Tryz.func26 rfl rfl rfl (Nat.le_of_ble_eq_true rfl) (by refine vc_mp (by kernel_rfl : (True ∧ True ∧ True ∧ True) = _) ?_; simp only [and_self]) ?_
  (refine vc_mp (by kernel_rfl : (∃ (x_1 : Int) (h' : AHeap), Qo0 45 (Qn6 a1 (Qo1 x) c1) k h x_1 h' (Q (Qlj x_1) h')) = _) ?_; delta Qlj Qn6 Qo0 Qo1)
  refine ⟨_, _, A1, ?_⟩
  exact HQ _ _ ⟨rfl, wt1, (ot1.widen (by intro z hz; (try simp only [List.mem_append, List.append_nil, List.nil_append, List.not_mem_nil, or_false, false_or] at hz ⊢); first | simp [hz] | grind)), s1⟩
def Qo2 (a : Prop) := True ∧ True ∧ Qlg Qli ∧ True ∧ a
def Qo3 := Qlj (-1)
theorem hdSay (h : AHeap) (hw : h.wf) (x : saySh.T) (v1 : Value) (k : Int) (rd : saySh.rd h (saySh.mkv x k).1 [.int .i64 x.1, .int .i64 x.2.1, .int .i64 x.2.2.1, .int .i64 x.2.2.2.1, .string x.2.2.2.2.1, v1]) (hk : 0 ≤ k) (hb : (saySh.mkv x k).2 ≤ 1000000000000000) :
    ∃ w h', ACall Tryz.prog 115 [.agg #[.int .i64 x.1, .int .i64 x.2.1, .int .i64 x.2.2.1, .int .i64 x.2.2.2.1, .string x.2.2.2.2.1, v1], .int .i64 k] h w h' ∧ w = .int .i64 (saySh.mkv x k).2 ∧ h'.wf ∧ h.Le h' := by
  obtain ⟨y1, ec, s1⟩ := rd_say.1 rd
  cases ec
  have bd : (mrkL (Sh.mkd changeSh) x.2.2.2.2.2 k).2 ≤ 1000000000000000 := hb
  have q1 := Sh.mrkL_le changeSh x.2.2.2.2.2 k
  have s1 : Sl h changeSh (mrkL (Sh.mkd changeSh) x.2.2.2.2.2 k).1 v1 := s1
  obtain ⟨a1, c1, rfl⟩ := s1.isSlice
  refine acall_q fun Q HQ => ?_
  obtain ⟨_, t1, A1, rfl, wt1, lt1⟩ := hdChangeS h hw x.2.2.2.2.2 _ k s1 (by omega) (by omega)
  have s1 := s1.mono lt1
  refine acall_vc (fun _ => false) (fun _ => []) (fun _ => .none) mixed Tryz.func115 rfl rfl rfl (Nat.le_of_ble_eq_true rfl) (by (refine vc_mp (by kernel_rfl : (Qo2 True) = _) ?_; delta Qlg Qli Qo2); simp only [and_self]) ?_
  (refine vc_mp (by kernel_rfl : (∃ (x_1 : Int) (h' : AHeap), Qo0 48 (Qn6 a1 (Qn7 (Qo1 x) k) c1) k h x_1 h' (bs (decide (x_1 < 0)) (Q Qo3 h') (Q (Qlj x_1) h'))) = _) ?_; delta Qlj Qn6 Qn7 Qo0 Qo1 Qo3)
  refine ⟨_, _, A1, bs_d (fun e => absurd e (by omega)) (fun _ => ?_)⟩
  exact HQ _ _ ⟨rfl, wt1, lt1⟩
def Qo4 (a : Qoh) (b : Sh.T Sh.int × Sh.T Sh.int × Sh.T Sh.bool × Sh.T Sh.int × Sh.T (Sh.sl voteSh) × Sh.T (Sh.sl changeSh) × Sh.T saySh × List (Sh.T Sh.str)) (c : Nat) := Qme a (Prod.snd (Prod.snd (Prod.snd (Prod.snd (Prod.snd (Prod.snd (Prod.snd b))))))) c
def Qo5 (a : Qoh) (b : Sh.T Sh.int × Sh.T Sh.int × Sh.T Sh.bool × Sh.T Sh.int × Sh.T (Sh.sl voteSh) × Sh.T (Sh.sl changeSh) × (Sh.T Sh.int × Sh.T Sh.int × Sh.T Sh.int × Sh.T Sh.int × Sh.T Sh.str × List (Sh.T changeSh)) × Sh.T (Sh.sl Sh.str)) (c : Nat) := Qn6 a (Qo1 (Prod.fst (Prod.snd (Prod.snd (Prod.snd (Prod.snd (Prod.snd (Prod.snd b)))))))) c
def Qo6 (a : Sh.T Sh.int × Sh.T Sh.int × Sh.T Sh.bool × Sh.T Sh.int × Sh.T (Sh.sl voteSh) × Sh.T (Sh.sl changeSh) × (Sh.T Sh.int × Sh.T Sh.int × Sh.T Sh.int × Sh.T Sh.int × ByteArray × Sh.T (Sh.sl changeSh)) × Sh.T (Sh.sl Sh.str)) := Value.string (Prod.fst (Prod.snd (Prod.snd (Prod.snd (Prod.snd (Prod.fst (Prod.snd (Prod.snd (Prod.snd (Prod.snd (Prod.snd (Prod.snd a))))))))))))
def Qo7 (a : Sh.T Sh.int × Sh.T Sh.int × Sh.T Sh.bool × Sh.T Sh.int × Sh.T (Sh.sl voteSh) × Sh.T (Sh.sl changeSh) × (Sh.T Sh.int × Sh.T Sh.int × Sh.T Sh.int × Int × Sh.T (Sh.pair Sh.str (Sh.sl changeSh))) × Sh.T (Sh.sl Sh.str)) := Qlj (Prod.fst (Prod.snd (Prod.snd (Prod.snd (Prod.fst (Prod.snd (Prod.snd (Prod.snd (Prod.snd (Prod.snd (Prod.snd a)))))))))))
def Qo8 (a : Sh.T Sh.int × Sh.T Sh.int × Sh.T Sh.bool × Sh.T Sh.int × Sh.T (Sh.sl voteSh) × Sh.T (Sh.sl changeSh) × (Sh.T Sh.int × Sh.T Sh.int × Int × Sh.T (Sh.pair Sh.int (Sh.pair Sh.str (Sh.sl changeSh)))) × Sh.T (Sh.sl Sh.str)) := Qlj (Prod.fst (Prod.snd (Prod.snd (Prod.fst (Prod.snd (Prod.snd (Prod.snd (Prod.snd (Prod.snd (Prod.snd a))))))))))
def Qo9 (a : Sh.T Sh.int × Sh.T Sh.int × Sh.T Sh.bool × Sh.T Sh.int × Sh.T (Sh.sl voteSh) × Sh.T (Sh.sl changeSh) × (Sh.T Sh.int × Int × Sh.T (Sh.pair Sh.int (Sh.pair Sh.int (Sh.pair Sh.str (Sh.sl changeSh))))) × Sh.T (Sh.sl Sh.str)) := Qlj (Prod.fst (Prod.snd (Prod.fst (Prod.snd (Prod.snd (Prod.snd (Prod.snd (Prod.snd (Prod.snd a)))))))))
def Qoa (a : Sh.T Sh.int × Sh.T Sh.int × Sh.T Sh.bool × Sh.T Sh.int × Sh.T (Sh.sl voteSh) × Sh.T (Sh.sl changeSh) × (Int × Sh.T (Sh.pair Sh.int (Sh.pair Sh.int (Sh.pair Sh.int (Sh.pair Sh.str (Sh.sl changeSh)))))) × Sh.T (Sh.sl Sh.str)) := Qlj (Prod.fst (Prod.fst (Prod.snd (Prod.snd (Prod.snd (Prod.snd (Prod.snd (Prod.snd a))))))))
def Qob (a : Sh.T Sh.int × Sh.T Sh.int × Sh.T Sh.bool × Sh.T Sh.int × Sh.T (Sh.sl voteSh) × List (Sh.T changeSh) × Sh.T (Sh.pair saySh (Sh.sl Sh.str))) := Prod.fst (Prod.snd (Prod.snd (Prod.snd (Prod.snd (Prod.snd a)))))
def Qoc (a : Sh.T Sh.int × Sh.T Sh.int × Sh.T Sh.bool × Sh.T Sh.int × List (Sh.T voteSh) × Sh.T (Sh.pair (Sh.sl changeSh) (Sh.pair saySh (Sh.sl Sh.str)))) := Prod.fst (Prod.snd (Prod.snd (Prod.snd (Prod.snd a))))
theorem mkReplica (h : AHeap) (hw : h.wf) (x : replicaSh.T) (v1 v2 v3 v4 : Value) (j1 j2 j3 j4 : List Nat) (s1 : So h voteSh x.2.2.2.2.1 v1 j1) (s2 : So h changeSh x.2.2.2.2.2.1 v2 j2) (s3 : So h changeSh x.2.2.2.2.2.2.1.2.2.2.2.2 v3 j3) (s4 : So h Sh.str x.2.2.2.2.2.2.2 v4 j4) (nd : (j1 ++ (j2 ++ (j3 ++ j4))).Nodup) (k : Int) (hk : 0 ≤ k) (hb : (replicaSh.mkv x k).2 ≤ 1000000000000000) :
    ∃ w h', ACall Tryz.prog 13 [.agg #[.int .i64 x.1, .int .i64 x.2.1, .bool x.2.2.1, .int .i64 x.2.2.2.1, v1, v2, .int .i64 x.2.2.2.2.2.2.1.1, .int .i64 x.2.2.2.2.2.2.1.2.1, .int .i64 x.2.2.2.2.2.2.1.2.2.1, .int .i64 x.2.2.2.2.2.2.1.2.2.2.1, .string x.2.2.2.2.2.2.1.2.2.2.2.1, v3, v4], .int .i64 k] h w h' ∧ w = .int .i64 (replicaSh.mkv x k).2 ∧ h'.wf ∧ Out (j1 ++ (j2 ++ (j3 ++ j4))) h h' ∧ So h' voteSh (replicaSh.mkv x k).1.2.2.2.2.1 v1 j1 ∧ So h' changeSh (replicaSh.mkv x k).1.2.2.2.2.2.1 v2 j2 ∧ So h' changeSh (replicaSh.mkv x k).1.2.2.2.2.2.2.1.2.2.2.2.2 v3 j3 ∧ So h' Sh.str (replicaSh.mkv x k).1.2.2.2.2.2.2.2 v4 j4 := by
  obtain ⟨a1, c1, rfl⟩ := s1.sl.isSlice
  obtain ⟨a2, c2, rfl⟩ := s2.sl.isSlice
  obtain ⟨a3, c3, rfl⟩ := s3.sl.isSlice
  obtain ⟨a4, c4, rfl⟩ := s4.sl.isSlice
  simp only [List.nodup_append, List.mem_append] at nd
  have bd : (mrkL (Sh.mkd Sh.str) x.2.2.2.2.2.2.2 (saySh.mkv x.2.2.2.2.2.2.1 (mrkL (Sh.mkd changeSh) x.2.2.2.2.2.1 (mrkL (Sh.mkd voteSh) x.2.2.2.2.1 k).2).2).2).2 ≤ 1000000000000000 := hb
  have q1 := Sh.mrkL_le voteSh x.2.2.2.2.1 k
  have q2 := Sh.mrkL_le changeSh x.2.2.2.2.2.1 (mrkL (Sh.mkd voteSh) x.2.2.2.2.1 k).2
  have q3 := Sh.mkv_le saySh x.2.2.2.2.2.2.1 (mrkL (Sh.mkd changeSh) x.2.2.2.2.2.1 (mrkL (Sh.mkd voteSh) x.2.2.2.2.1 k).2).2
  have q4 := Sh.mrkL_le Sh.str x.2.2.2.2.2.2.2 (saySh.mkv x.2.2.2.2.2.2.1 (mrkL (Sh.mkd changeSh) x.2.2.2.2.2.1 (mrkL (Sh.mkd voteSh) x.2.2.2.2.1 k).2).2).2
  refine acall_q fun Q HQ => ?_
  obtain ⟨_, t1, A1, rfl, wt1, ot1, s1⟩ := mkVoteS h hw x.2.2.2.2.1 _ _ s1 nd.1 k (by omega) (by omega)
  have s2 := s2.out ot1 (by intro z hz hz2; (try simp only [List.mem_append, List.append_nil, List.nil_append, List.not_mem_nil, or_false, false_or] at hz2); first | exact (show ∀ z ∈ j2, z ∉ j1 from (by intro z hz hz2; have := nd.2.2; first | exact this z (by simp [hz]) z (by simp [hz2]) rfl | exact this z (by simp [hz2]) z (by simp [hz]) rfl)) z hz hz2 | grind)
  have s3 := s3.out ot1 (by intro z hz hz2; (try simp only [List.mem_append, List.append_nil, List.nil_append, List.not_mem_nil, or_false, false_or] at hz2); first | exact (show ∀ z ∈ j3, z ∉ j1 from (by intro z hz hz2; have := nd.2.2; first | exact this z (by simp [hz]) z (by simp [hz2]) rfl | exact this z (by simp [hz2]) z (by simp [hz]) rfl)) z hz hz2 | grind)
  have s4 := s4.out ot1 (by intro z hz hz2; (try simp only [List.mem_append, List.append_nil, List.nil_append, List.not_mem_nil, or_false, false_or] at hz2); first | exact (show ∀ z ∈ j4, z ∉ j1 from (by intro z hz hz2; have := nd.2.2; first | exact this z (by simp [hz]) z (by simp [hz2]) rfl | exact this z (by simp [hz2]) z (by simp [hz]) rfl)) z hz hz2 | grind)
  obtain ⟨_, t2, A2, rfl, wt2, ot2, s2⟩ := mkChangeS t1 wt1 x.2.2.2.2.2.1 _ _ s2 nd.2.1.1 (mrkL (Sh.mkd voteSh) x.2.2.2.2.1 k).2 (by omega) (by omega)
  have s1 := s1.out ot2 (by intro z hz hz2; (try simp only [List.mem_append, List.append_nil, List.nil_append, List.not_mem_nil, or_false, false_or] at hz2); first | exact (show ∀ z ∈ j1, z ∉ j2 from (by intro z hz hz2; have := nd.2.2; first | exact this z (by simp [hz]) z (by simp [hz2]) rfl | exact this z (by simp [hz2]) z (by simp [hz]) rfl)) z hz hz2 | grind)
  have s3 := s3.out ot2 (by intro z hz hz2; (try simp only [List.mem_append, List.append_nil, List.nil_append, List.not_mem_nil, or_false, false_or] at hz2); first | exact (show ∀ z ∈ j3, z ∉ j2 from (by intro z hz hz2; have := nd.2.1.2.2; first | exact this z (by simp [hz]) z (by simp [hz2]) rfl | exact this z (by simp [hz2]) z (by simp [hz]) rfl)) z hz hz2 | grind)
  have s4 := s4.out ot2 (by intro z hz hz2; (try simp only [List.mem_append, List.append_nil, List.nil_append, List.not_mem_nil, or_false, false_or] at hz2); first | exact (show ∀ z ∈ j4, z ∉ j2 from (by intro z hz hz2; have := nd.2.1.2.2; first | exact this z (by simp [hz]) z (by simp [hz2]) rfl | exact this z (by simp [hz2]) z (by simp [hz]) rfl)) z hz hz2 | grind)
  obtain ⟨_, t3, A3, rfl, wt3, ot3, s3⟩ := mkSay t2 wt2 x.2.2.2.2.2.2.1 _ j3 s3 (by (try simp only [List.nodup_append, List.mem_append]); first | exact nd | exact nd.1 | exact nd.2.1 | exact nd.2.1.1 | exact nd.2.1.2.1 | exact nd.2.1.2.1.1 | exact ⟨nd.1, nd.2.1.1, fun a ha b hb => nd.2.2 a ha b (.inl hb)⟩ | grind) (mrkL (Sh.mkd changeSh) x.2.2.2.2.2.1 (mrkL (Sh.mkd voteSh) x.2.2.2.2.1 k).2).2 (by omega) (by omega)
  have s1 := s1.out ot3 (by intro z hz hz2; (try simp only [List.mem_append, List.append_nil, List.nil_append, List.not_mem_nil, or_false, false_or] at hz2); first | exact (show ∀ z ∈ j1, z ∉ j3 from (by intro z hz hz2; have := nd.2.2; first | exact this z (by simp [hz]) z (by simp [hz2]) rfl | exact this z (by simp [hz2]) z (by simp [hz]) rfl)) z hz hz2 | grind)
  have s2 := s2.out ot3 (by intro z hz hz2; (try simp only [List.mem_append, List.append_nil, List.nil_append, List.not_mem_nil, or_false, false_or] at hz2); first | exact (show ∀ z ∈ j2, z ∉ j3 from (by intro z hz hz2; have := nd.2.1.2.2; first | exact this z (by simp [hz]) z (by simp [hz2]) rfl | exact this z (by simp [hz2]) z (by simp [hz]) rfl)) z hz hz2 | grind)
  have s4 := s4.out ot3 (by intro z hz hz2; (try simp only [List.mem_append, List.append_nil, List.nil_append, List.not_mem_nil, or_false, false_or] at hz2); first | exact (show ∀ z ∈ j4, z ∉ j3 from (by intro z hz hz2; have := nd.2.1.2.1.2.2; first | exact this z (by simp [hz]) z (by simp [hz2]) rfl | exact this z (by simp [hz2]) z (by simp [hz]) rfl)) z hz hz2 | grind)
  obtain ⟨_, t4, A4, rfl, wt4, ot4, s4⟩ := mkStringS t3 wt3 x.2.2.2.2.2.2.2 _ _ s4 nd.2.1.2.1.2.1 (saySh.mkv x.2.2.2.2.2.2.1 (mrkL (Sh.mkd changeSh) x.2.2.2.2.2.1 (mrkL (Sh.mkd voteSh) x.2.2.2.2.1 k).2).2).2 (by omega) (by omega)
  have s1 := s1.out ot4 (by intro z hz hz2; (try simp only [List.mem_append, List.append_nil, List.nil_append, List.not_mem_nil, or_false, false_or] at hz2); first | exact (show ∀ z ∈ j1, z ∉ j4 from (by intro z hz hz2; have := nd.2.2; first | exact this z (by simp [hz]) z (by simp [hz2]) rfl | exact this z (by simp [hz2]) z (by simp [hz]) rfl)) z hz hz2 | grind)
  have s2 := s2.out ot4 (by intro z hz hz2; (try simp only [List.mem_append, List.append_nil, List.nil_append, List.not_mem_nil, or_false, false_or] at hz2); first | exact (show ∀ z ∈ j2, z ∉ j4 from (by intro z hz hz2; have := nd.2.1.2.2; first | exact this z (by simp [hz]) z (by simp [hz2]) rfl | exact this z (by simp [hz2]) z (by simp [hz]) rfl)) z hz hz2 | grind)
  have s3 := s3.out ot4 (by intro z hz hz2; (try simp only [List.mem_append, List.append_nil, List.nil_append, List.not_mem_nil, or_false, false_or] at hz2); first | exact (show ∀ z ∈ j3, z ∉ j4 from (by intro z hz hz2; have := nd.2.1.2.1.2.2; first | exact this z (by simp [hz]) z (by simp [hz2]) rfl | exact this z (by simp [hz2]) z (by simp [hz]) rfl)) z hz hz2 | grind)
  refine acall_vc (fun _ => false) (fun _ => []) (fun _ => .none) mixed Tryz.func13 rfl rfl rfl (Nat.le_of_ble_eq_true rfl) (by (refine vc_mp (by kernel_rfl : (Qmq (Qlg True)) = _) ?_; delta Qlg Qmq); simp only [and_self]) ?_
  (refine vc_mp (by kernel_rfl : (∃ (x_1 : Int) (h' : AHeap), Qo0 44 (Qnq a1 (Qoc x) c1) k h x_1 h' (∃ (x_2 : Int) (h'_1 : AHeap), Qo0 45 (Qn6 a2 (Qob x) c2) x_1 h' x_2 h'_1 (∃ (x_3 : Int) (h' : AHeap), Qo0 26 (Value.agg (Array.mk [Qoa x, Qo9 x, Qo8 x, Qo7 x, Qo6 x, Qo5 a3 x c3])) x_2 h'_1 x_3 h' (∃ (x_4 : Int) (h'_2 : AHeap), Qo0 46 (Qo4 a4 x c4) x_3 h' x_4 h'_2 (Q (Qlj x_4) h'_2))))) = _) ?_; delta Qlj Qme Qn6 Qnq Qo0 Qo1 Qo4 Qo5 Qo6 Qo7 Qo8 Qo9 Qoa Qob Qoc)
  refine ⟨_, _, A1, ?_⟩
  refine ⟨_, _, A2, ?_⟩
  refine ⟨_, _, A3, ?_⟩
  refine ⟨_, _, A4, ?_⟩
  exact HQ _ _ ⟨rfl, wt4, ((ot1.widen (by intro z hz; (try simp only [List.mem_append, List.append_nil, List.nil_append, List.not_mem_nil, or_false, false_or] at hz ⊢); first | simp [hz] | grind)).trans ((ot2.widen (by intro z hz; (try simp only [List.mem_append, List.append_nil, List.nil_append, List.not_mem_nil, or_false, false_or] at hz ⊢); first | simp [hz] | grind)).trans ((ot3.widen (by intro z hz; (try simp only [List.mem_append, List.append_nil, List.nil_append, List.not_mem_nil, or_false, false_or] at hz ⊢); first | simp [hz] | grind)).trans (ot4.widen (by intro z hz; (try simp only [List.mem_append, List.append_nil, List.nil_append, List.not_mem_nil, or_false, false_or] at hz ⊢); first | simp [hz] | grind))))), s1, s2, s3, s4⟩
theorem hdReplica (h : AHeap) (hw : h.wf) (x : replicaSh.T) (v1 v2 v3 v4 : Value) (k : Int) (rd : replicaSh.rd h (replicaSh.mkv x k).1 [.int .i64 x.1, .int .i64 x.2.1, .bool x.2.2.1, .int .i64 x.2.2.2.1, v1, v2, .int .i64 x.2.2.2.2.2.2.1.1, .int .i64 x.2.2.2.2.2.2.1.2.1, .int .i64 x.2.2.2.2.2.2.1.2.2.1, .int .i64 x.2.2.2.2.2.2.1.2.2.2.1, .string x.2.2.2.2.2.2.1.2.2.2.2.1, v3, v4]) (hk : 0 ≤ k) (hb : (replicaSh.mkv x k).2 ≤ 1000000000000000) :
    ∃ w h', ACall Tryz.prog 60 [.agg #[.int .i64 x.1, .int .i64 x.2.1, .bool x.2.2.1, .int .i64 x.2.2.2.1, v1, v2, .int .i64 x.2.2.2.2.2.2.1.1, .int .i64 x.2.2.2.2.2.2.1.2.1, .int .i64 x.2.2.2.2.2.2.1.2.2.1, .int .i64 x.2.2.2.2.2.2.1.2.2.2.1, .string x.2.2.2.2.2.2.1.2.2.2.2.1, v3, v4], .int .i64 k] h w h' ∧ w = .int .i64 (replicaSh.mkv x k).2 ∧ h'.wf ∧ h.Le h' := by
  obtain ⟨y1, y2, y3, y4, ec, s1, s2, s3, s4⟩ := rd_replica.1 rd
  cases ec
  have bd : (mrkL (Sh.mkd Sh.str) x.2.2.2.2.2.2.2 (saySh.mkv x.2.2.2.2.2.2.1 (mrkL (Sh.mkd changeSh) x.2.2.2.2.2.1 (mrkL (Sh.mkd voteSh) x.2.2.2.2.1 k).2).2).2).2 ≤ 1000000000000000 := hb
  have q1 := Sh.mrkL_le voteSh x.2.2.2.2.1 k
  have s1 : Sl h voteSh (mrkL (Sh.mkd voteSh) x.2.2.2.2.1 k).1 v1 := s1
  have q2 := Sh.mrkL_le changeSh x.2.2.2.2.2.1 (mrkL (Sh.mkd voteSh) x.2.2.2.2.1 k).2
  have s2 : Sl h changeSh (mrkL (Sh.mkd changeSh) x.2.2.2.2.2.1 (mrkL (Sh.mkd voteSh) x.2.2.2.2.1 k).2).1 v2 := s2
  have q3 := Sh.mkv_le saySh x.2.2.2.2.2.2.1 (mrkL (Sh.mkd changeSh) x.2.2.2.2.2.1 (mrkL (Sh.mkd voteSh) x.2.2.2.2.1 k).2).2
  have q4 := Sh.mrkL_le Sh.str x.2.2.2.2.2.2.2 (saySh.mkv x.2.2.2.2.2.2.1 (mrkL (Sh.mkd changeSh) x.2.2.2.2.2.1 (mrkL (Sh.mkd voteSh) x.2.2.2.2.1 k).2).2).2
  have s4 : Sl h Sh.str (mrkL (Sh.mkd Sh.str) x.2.2.2.2.2.2.2 (saySh.mkv x.2.2.2.2.2.2.1 (mrkL (Sh.mkd changeSh) x.2.2.2.2.2.1 (mrkL (Sh.mkd voteSh) x.2.2.2.2.1 k).2).2).2).1 v4 := s4
  obtain ⟨a1, c1, rfl⟩ := s1.isSlice
  obtain ⟨a2, c2, rfl⟩ := s2.isSlice
  obtain ⟨a3, c3, rfl⟩ := s3.isSlice
  obtain ⟨a4, c4, rfl⟩ := s4.isSlice
  refine acall_q fun Q HQ => ?_
  obtain ⟨_, t1, A1, rfl, wt1, lt1⟩ := hdVoteS h hw x.2.2.2.2.1 _ k s1 (by omega) (by omega)
  have s1 := s1.mono lt1
  have s2 := s2.mono lt1
  have s3 := s3.mono lt1
  have s4 := s4.mono lt1
  obtain ⟨_, t2, A2, rfl, wt2, lt2⟩ := hdChangeS t1 wt1 x.2.2.2.2.2.1 _ (mrkL (Sh.mkd voteSh) x.2.2.2.2.1 k).2 s2 (by omega) (by omega)
  have s1 := s1.mono lt2
  have s2 := s2.mono lt2
  have s3 := s3.mono lt2
  have s4 := s4.mono lt2
  obtain ⟨_, t3, A3, rfl, wt3, lt3⟩ := hdSay t2 wt2 x.2.2.2.2.2.2.1 _ (mrkL (Sh.mkd changeSh) x.2.2.2.2.2.1 (mrkL (Sh.mkd voteSh) x.2.2.2.2.1 k).2).2 (rd_say.2 ⟨_, rfl, s3⟩) (by omega) (by omega)
  have s1 := s1.mono lt3
  have s2 := s2.mono lt3
  have s3 := s3.mono lt3
  have s4 := s4.mono lt3
  obtain ⟨_, t4, A4, rfl, wt4, lt4⟩ := hdStringS t3 wt3 x.2.2.2.2.2.2.2 _ (saySh.mkv x.2.2.2.2.2.2.1 (mrkL (Sh.mkd changeSh) x.2.2.2.2.2.1 (mrkL (Sh.mkd voteSh) x.2.2.2.2.1 k).2).2).2 s4 (by omega) (by omega)
  have s1 := s1.mono lt4
  have s2 := s2.mono lt4
  have s3 := s3.mono lt4
  have s4 := s4.mono lt4
  refine acall_vc (fun _ => false) (fun _ => []) (fun _ => .none) mixed Tryz.func60 rfl rfl rfl (Nat.le_of_ble_eq_true rfl) (by (refine vc_mp (by kernel_rfl : (Qo2 (Qn2 (Qlg Qli ∧ True ∧ True))) = _) ?_; delta Qlg Qli Qn2 Qo2); simp only [and_self]) ?_
  (refine vc_mp (by kernel_rfl : (∃ (x_1 : Int) (h' : AHeap), Qo0 114 (Qnq a1 (Qnr (Qoc x) k) c1) k h x_1 h' (bs (decide (x_1 < 0)) (Q Qo3 h') (∃ (x_2 : Int) (h'_1 : AHeap), Qo0 48 (Qn6 a2 (Prod.fst (mrkL (Sh.mkd changeSh) (Qob x) (Qnt (Qoc x) k))) c2) x_1 h' x_2 h'_1 (bs (decide (x_2 < 0)) (Q Qo3 h'_1) (∃ (x_3 : Int) (h' : AHeap), Qo0 115 (Value.agg (Array.mk [Qoa x, Qo9 x, Qo8 x, Qo7 x, Qo6 x, Qo5 a3 (Prod.fst (Sh.mkv replicaSh x k)) c3])) x_2 h'_1 x_3 h' (bs (decide (x_3 < 0)) (Q Qo3 h') (∃ (x_4 : Int) (h'_2 : AHeap), Qo0 116 (Qme a4 (Prod.fst (mrkL (Sh.mkd Sh.str) (Prod.snd (Prod.snd (Prod.snd (Prod.snd (Prod.snd (Prod.snd (Prod.snd x))))))) (Prod.snd (Sh.mkv saySh (Prod.fst (Prod.snd (Prod.snd (Prod.snd (Prod.snd (Prod.snd (Prod.snd x))))))) (Prod.snd (mrkL (Sh.mkd changeSh) (Qob x) (Qnt (Qoc x) k))))))) c4) x_3 h' x_4 h'_2 (bs (decide (x_4 < 0)) (Q Qo3 h'_2) (Q (Qlj x_4) h'_2))))))))) = _) ?_; delta Qlj Qme Qn6 Qnq Qnr Qnt Qo0 Qo1 Qo3 Qo5 Qo6 Qo7 Qo8 Qo9 Qoa Qob Qoc)
  refine ⟨_, _, A1, bs_d (fun e => absurd e (by omega)) (fun _ => ?_)⟩
  refine ⟨_, _, A2, bs_d (fun e => absurd e (by omega)) (fun _ => ?_)⟩
  refine ⟨_, _, A3, bs_d (fun e => absurd e (by omega)) (fun _ => ?_)⟩
  refine ⟨_, _, A4, bs_d (fun e => absurd e (by omega)) (fun _ => ?_)⟩
  exact HQ _ _ ⟨rfl, wt4, (lt1.trans (lt2.trans (lt3.trans lt4)))⟩
def Qod (a : (Sh.T Sh.int × Sh.T Sh.int × Sh.T Sh.bool × Int × Sh.T (Sh.pair (Sh.sl voteSh) (Sh.pair (Sh.sl changeSh) (Sh.pair saySh (Sh.sl Sh.str))))) × Sh.T (Sh.pair (Sh.sl saySh) Sh.int)) := Qlj (Prod.fst (Prod.snd (Prod.snd (Prod.snd (Prod.fst a)))))
theorem mkReplicaOut (h : AHeap) (hw : h.wf) (x : replicaOutSh.T) (v1 v2 v3 v4 v5 : Value) (j1 j2 j3 j4 j5 : List Nat) (s1 : So h voteSh x.1.2.2.2.2.1 v1 j1) (s2 : So h changeSh x.1.2.2.2.2.2.1 v2 j2) (s3 : So h changeSh x.1.2.2.2.2.2.2.1.2.2.2.2.2 v3 j3) (s4 : So h Sh.str x.1.2.2.2.2.2.2.2 v4 j4) (s5 : So h saySh x.2.1 v5 j5) (nd : (j1 ++ (j2 ++ (j3 ++ (j4 ++ j5)))).Nodup) (k : Int) (hk : 0 ≤ k) (hb : (replicaOutSh.mkv x k).2 ≤ 1000000000000000) :
    ∃ w h', ACall Tryz.prog 19 [.agg #[.int .i64 x.1.1, .int .i64 x.1.2.1, .bool x.1.2.2.1, .int .i64 x.1.2.2.2.1, v1, v2, .int .i64 x.1.2.2.2.2.2.2.1.1, .int .i64 x.1.2.2.2.2.2.2.1.2.1, .int .i64 x.1.2.2.2.2.2.2.1.2.2.1, .int .i64 x.1.2.2.2.2.2.2.1.2.2.2.1, .string x.1.2.2.2.2.2.2.1.2.2.2.2.1, v3, v4, v5, .int .i64 x.2.2], .int .i64 k] h w h' ∧ w = .int .i64 (replicaOutSh.mkv x k).2 ∧ h'.wf ∧ Out (j1 ++ (j2 ++ (j3 ++ (j4 ++ j5)))) h h' ∧ So h' voteSh (replicaOutSh.mkv x k).1.1.2.2.2.2.1 v1 j1 ∧ So h' changeSh (replicaOutSh.mkv x k).1.1.2.2.2.2.2.1 v2 j2 ∧ So h' changeSh (replicaOutSh.mkv x k).1.1.2.2.2.2.2.2.1.2.2.2.2.2 v3 j3 ∧ So h' Sh.str (replicaOutSh.mkv x k).1.1.2.2.2.2.2.2.2 v4 j4 ∧ So h' saySh (replicaOutSh.mkv x k).1.2.1 v5 j5 := by
  obtain ⟨a1, c1, rfl⟩ := s1.sl.isSlice
  obtain ⟨a2, c2, rfl⟩ := s2.sl.isSlice
  obtain ⟨a3, c3, rfl⟩ := s3.sl.isSlice
  obtain ⟨a4, c4, rfl⟩ := s4.sl.isSlice
  obtain ⟨a5, c5, rfl⟩ := s5.sl.isSlice
  simp only [List.nodup_append, List.mem_append] at nd
  have bd : (mrkL (Sh.mkd saySh) x.2.1 (replicaSh.mkv x.1 k).2).2 ≤ 1000000000000000 := hb
  have q1 := Sh.mkv_le replicaSh x.1 k
  have q2 := Sh.mrkL_le saySh x.2.1 (replicaSh.mkv x.1 k).2
  refine acall_q fun Q HQ => ?_
  obtain ⟨_, t1, A1, rfl, wt1, ot1, s1, s2, s3, s4⟩ := mkReplica h hw x.1 _ _ _ _ j1 j2 j3 j4 s1 s2 s3 s4 (by (try simp only [List.nodup_append, List.mem_append]); first | exact nd | exact nd.1 | exact nd.2.1 | exact nd.2.1.1 | exact nd.2.1.2.1 | exact nd.2.1.2.1.1 | exact ⟨nd.1, nd.2.1.1, fun a ha b hb => nd.2.2 a ha b (.inl hb)⟩ | grind) k (by omega) (by omega)
  have s5 := s5.out ot1 (by intro z hz hz2; (try simp only [List.mem_append, List.append_nil, List.nil_append, List.not_mem_nil, or_false, false_or] at hz2); first | exact (show ∀ z ∈ j5, z ∉ j1 from (by intro z hz hz2; have := nd.2.2; first | exact this z (by simp [hz]) z (by simp [hz2]) rfl | exact this z (by simp [hz2]) z (by simp [hz]) rfl)) z hz hz2 | exact (show ∀ z ∈ j5, z ∉ j2 from (by intro z hz hz2; have := nd.2.1.2.2; first | exact this z (by simp [hz]) z (by simp [hz2]) rfl | exact this z (by simp [hz2]) z (by simp [hz]) rfl)) z hz hz2 | exact (show ∀ z ∈ j5, z ∉ j3 from (by intro z hz hz2; have := nd.2.1.2.1.2.2; first | exact this z (by simp [hz]) z (by simp [hz2]) rfl | exact this z (by simp [hz2]) z (by simp [hz]) rfl)) z hz hz2 | exact (show ∀ z ∈ j5, z ∉ j4 from (by intro z hz hz2; have := nd.2.1.2.1.2.1.2.2; first | exact this z (by simp [hz]) z (by simp [hz2]) rfl | exact this z (by simp [hz2]) z (by simp [hz]) rfl)) z hz hz2 | grind)
  obtain ⟨_, t2, A2, rfl, wt2, ot2, s5⟩ := mkSayS t1 wt1 x.2.1 _ _ s5 nd.2.1.2.1.2.1.2.1 (replicaSh.mkv x.1 k).2 (by omega) (by omega)
  have s1 := s1.out ot2 (by intro z hz hz2; (try simp only [List.mem_append, List.append_nil, List.nil_append, List.not_mem_nil, or_false, false_or] at hz2); first | exact (show ∀ z ∈ j1, z ∉ j5 from (by intro z hz hz2; have := nd.2.2; first | exact this z (by simp [hz]) z (by simp [hz2]) rfl | exact this z (by simp [hz2]) z (by simp [hz]) rfl)) z hz hz2 | grind)
  have s2 := s2.out ot2 (by intro z hz hz2; (try simp only [List.mem_append, List.append_nil, List.nil_append, List.not_mem_nil, or_false, false_or] at hz2); first | exact (show ∀ z ∈ j2, z ∉ j5 from (by intro z hz hz2; have := nd.2.1.2.2; first | exact this z (by simp [hz]) z (by simp [hz2]) rfl | exact this z (by simp [hz2]) z (by simp [hz]) rfl)) z hz hz2 | grind)
  have s3 := s3.out ot2 (by intro z hz hz2; (try simp only [List.mem_append, List.append_nil, List.nil_append, List.not_mem_nil, or_false, false_or] at hz2); first | exact (show ∀ z ∈ j3, z ∉ j5 from (by intro z hz hz2; have := nd.2.1.2.1.2.2; first | exact this z (by simp [hz]) z (by simp [hz2]) rfl | exact this z (by simp [hz2]) z (by simp [hz]) rfl)) z hz hz2 | grind)
  have s4 := s4.out ot2 (by intro z hz hz2; (try simp only [List.mem_append, List.append_nil, List.nil_append, List.not_mem_nil, or_false, false_or] at hz2); first | exact (show ∀ z ∈ j4, z ∉ j5 from (by intro z hz hz2; have := nd.2.1.2.1.2.1.2.2; first | exact this z (by simp [hz]) z (by simp [hz2]) rfl | exact this z (by simp [hz2]) z (by simp [hz]) rfl)) z hz hz2 | grind)
  refine acall_vc (fun _ => false) (fun _ => []) (fun _ => .none) mixed Tryz.func19 rfl rfl rfl (Nat.le_of_ble_eq_true rfl) (by (refine vc_mp (by kernel_rfl : (Qmq True) = _) ?_; delta Qmq); simp only [and_self]) ?_
  (refine vc_mp (by kernel_rfl : (∃ (x_1 : Int) (h' : AHeap), Qo0 13 (Value.agg (Array.mk [Qlj (Prod.fst (Prod.fst x)), Qlj (Prod.fst (Prod.snd (Prod.fst x))), Value.bool (Prod.fst (Prod.snd (Prod.snd (Prod.fst x)))), Qod x, Qnq a1 (Qoc (Prod.fst x)) c1, Qn6 a2 (Qob (Prod.fst x)) c2, Qoa (Prod.fst x), Qo9 (Prod.fst x), Qo8 (Prod.fst x), Qo7 (Prod.fst x), Qo6 (Prod.fst x), Qo5 a3 (Prod.fst x) c3, Qo4 a4 (Prod.fst x) c4])) k h x_1 h' (∃ (x_2 : Int) (h'_1 : AHeap), Qo0 14 (Qng a5 (Prod.fst (Prod.snd x)) c5) x_1 h' x_2 h'_1 (Q (Qlj x_2) h'_1))) = _) ?_; delta Qlj Qme Qn6 Qng Qnq Qo0 Qo1 Qo4 Qo5 Qo6 Qo7 Qo8 Qo9 Qoa Qob Qoc Qod)
  refine ⟨_, _, A1, ?_⟩
  refine ⟨_, _, A2, ?_⟩
  exact HQ _ _ ⟨rfl, wt2, ((ot1.widen (by intro z hz; (try simp only [List.mem_append, List.append_nil, List.nil_append, List.not_mem_nil, or_false, false_or] at hz ⊢); first | simp [hz] | grind)).trans (ot2.widen (by intro z hz; (try simp only [List.mem_append, List.append_nil, List.nil_append, List.not_mem_nil, or_false, false_or] at hz ⊢); first | simp [hz] | grind))), s1, s2, s3, s4, s5⟩
def Qoe (a : Sh.T replicaOutSh) (b : Int) := Sh.mkv replicaOutSh a b
theorem hdReplicaOut (h : AHeap) (hw : h.wf) (x : replicaOutSh.T) (v1 v2 v3 v4 v5 : Value) (k : Int) (rd : replicaOutSh.rd h (replicaOutSh.mkv x k).1 [.int .i64 x.1.1, .int .i64 x.1.2.1, .bool x.1.2.2.1, .int .i64 x.1.2.2.2.1, v1, v2, .int .i64 x.1.2.2.2.2.2.2.1.1, .int .i64 x.1.2.2.2.2.2.2.1.2.1, .int .i64 x.1.2.2.2.2.2.2.1.2.2.1, .int .i64 x.1.2.2.2.2.2.2.1.2.2.2.1, .string x.1.2.2.2.2.2.2.1.2.2.2.2.1, v3, v4, v5, .int .i64 x.2.2]) (hk : 0 ≤ k) (hb : (replicaOutSh.mkv x k).2 ≤ 1000000000000000) :
    ∃ w h', ACall Tryz.prog 20 [.agg #[.int .i64 x.1.1, .int .i64 x.1.2.1, .bool x.1.2.2.1, .int .i64 x.1.2.2.2.1, v1, v2, .int .i64 x.1.2.2.2.2.2.2.1.1, .int .i64 x.1.2.2.2.2.2.2.1.2.1, .int .i64 x.1.2.2.2.2.2.2.1.2.2.1, .int .i64 x.1.2.2.2.2.2.2.1.2.2.2.1, .string x.1.2.2.2.2.2.2.1.2.2.2.2.1, v3, v4, v5, .int .i64 x.2.2], .int .i64 k] h w h' ∧ w = .int .i64 (replicaOutSh.mkv x k).2 ∧ h'.wf ∧ h.Le h' := by
  obtain ⟨y1, y2, y3, y4, y5, ec, s1, s2, s3, s4, s5⟩ := rd_replicaOut.1 rd
  cases ec
  have bd : (mrkL (Sh.mkd saySh) x.2.1 (replicaSh.mkv x.1 k).2).2 ≤ 1000000000000000 := hb
  have q1 := Sh.mkv_le replicaSh x.1 k
  have q2 := Sh.mrkL_le saySh x.2.1 (replicaSh.mkv x.1 k).2
  have s5 : Sl h saySh (mrkL (Sh.mkd saySh) x.2.1 (replicaSh.mkv x.1 k).2).1 v5 := s5
  obtain ⟨a1, c1, rfl⟩ := s1.isSlice
  obtain ⟨a2, c2, rfl⟩ := s2.isSlice
  obtain ⟨a3, c3, rfl⟩ := s3.isSlice
  obtain ⟨a4, c4, rfl⟩ := s4.isSlice
  obtain ⟨a5, c5, rfl⟩ := s5.isSlice
  refine acall_q fun Q HQ => ?_
  obtain ⟨_, t1, A1, rfl, wt1, lt1⟩ := hdReplica h hw x.1 _ _ _ _ k (rd_replica.2 ⟨_, _, _, _, rfl, s1, s2, s3, s4⟩) (by omega) (by omega)
  have s1 := s1.mono lt1
  have s2 := s2.mono lt1
  have s3 := s3.mono lt1
  have s4 := s4.mono lt1
  have s5 := s5.mono lt1
  obtain ⟨_, t2, A2, rfl, wt2, lt2⟩ := hdSayS t1 wt1 x.2.1 _ (replicaSh.mkv x.1 k).2 s5 (by omega) (by omega)
  have s1 := s1.mono lt2
  have s2 := s2.mono lt2
  have s3 := s3.mono lt2
  have s4 := s4.mono lt2
  have s5 := s5.mono lt2
  refine acall_vc (fun _ => false) (fun _ => []) (fun _ => .none) mixed Tryz.func20 rfl rfl rfl (Nat.le_of_ble_eq_true rfl) (by (refine vc_mp (by kernel_rfl : (Qo2 (Qlg Qli ∧ True ∧ True)) = _) ?_; delta Qlg Qli Qo2); simp only [and_self]) ?_
  (refine vc_mp (by kernel_rfl : (∃ (x_1 : Int) (h' : AHeap), Qo0 60 (Value.agg (Array.mk [Qlj (Prod.fst (Prod.fst x)), Qlj (Prod.fst (Prod.snd (Prod.fst x))), Value.bool (Prod.fst (Prod.snd (Prod.snd (Prod.fst x)))), Qod x, Qnq a1 (Qoc (Prod.fst (Prod.fst (Qoe x k)))) c1, Qn6 a2 (Qob (Prod.fst (Prod.fst (Qoe x k)))) c2, Qoa (Prod.fst x), Qo9 (Prod.fst x), Qo8 (Prod.fst x), Qo7 (Prod.fst x), Qo6 (Prod.fst x), Qo5 a3 (Prod.fst (Prod.fst (Qoe x k))) c3, Qo4 a4 (Prod.fst (Prod.fst (Qoe x k))) c4])) k h x_1 h' (bs (decide (x_1 < 0)) (Q Qo3 h') (∃ (x_2 : Int) (h'_1 : AHeap), Qo0 15 (Qng a5 (Qnh (Prod.fst (Prod.snd x)) (Prod.snd (Sh.mkv replicaSh (Prod.fst x) k))) c5) x_1 h' x_2 h'_1 (bs (decide (x_2 < 0)) (Q Qo3 h'_1) (Q (Qlj x_2) h'_1))))) = _) ?_; delta Qlj Qme Qn6 Qng Qnh Qnq Qo0 Qo1 Qo3 Qo4 Qo5 Qo6 Qo7 Qo8 Qo9 Qoa Qob Qoc Qod Qoe)
  refine ⟨_, _, A1, bs_d (fun e => absurd e (by omega)) (fun _ => ?_)⟩
  refine ⟨_, _, A2, bs_d (fun e => absurd e (by omega)) (fun _ => ?_)⟩
  exact HQ _ _ ⟨rfl, wt2, (lt1.trans lt2)⟩
end Go.Proofs.YtpgfjadjhliohaaGreat
