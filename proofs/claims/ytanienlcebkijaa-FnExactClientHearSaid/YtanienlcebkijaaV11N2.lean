/- Counts of marks by sizes; what is old stays where marks are set on what is new. -/
import Derived.Test.YtanienlcebkijaaV11N1
namespace Go.Dat
open Go.Abs
def Sh.wide : Sh → Bool
  | .int => true
  | .bool => true
  | .str => true
  | .byte => true
  | .pair a b => a.wide && b.wide
  | .sl e => decide (e.cells ≤ 100) && e.wide
theorem szL_cn {α : Type} {f : α → Int → Int} {c : α → Nat} {k : Nat} (hk : k ≤ 100) (hle : ∀ x l, 0 ≤ l → -1 ≤ f x l ∧ f x l ≤ l) (hf : ∀ x l, 0 ≤ l → 0 ≤ f x l → (c x : Int) ≤ k + 100 * (l - f x l)) : ∀ (xs : List α) (l : Int), 0 ≤ l → 0 ≤ szL f xs l → ((xs.map c).sum : Int) ≤ 100 * xs.length + 100 * (l - szL f xs l) := by
  intro xs
  induction xs with
  | nil => intro l h0 h1; simp [szL]
  | cons x xs ih =>
    intro l h0 h1
    unfold szL at h1 ⊢
    split at h1
    · omega
    · rename_i hn
      rw [if_neg hn]
      have h2 := hle x l h0
      have h3 := hf x l h0 (by omega)
      have h4 := ih (f x l) (by omega) h1
      simp only [List.map_cons, List.sum_cons, List.length_cons]
      omega
theorem Sh.cn_le : ∀ (s : Sh), s.wide = true → ∀ (x : s.T) (l : Int), 0 ≤ l → 0 ≤ s.sz x l → (s.cn x : Int) ≤ s.cells + 100 * (l - s.sz x l) := by
  intro s
  induction s with
  | int => intro _ x l h0 h1; simp [Sh.cn, Sh.cells, Sh.sz]
  | bool => intro _ x l h0 h1; simp [Sh.cn, Sh.cells, Sh.sz]
  | byte => intro _ x l h0 h1; simp [Sh.cn, Sh.cells, Sh.sz]
  | str =>
    intro _ x l h0 h1
    have := Sh.str.sz_le x l h0
    show ((1 : Nat) : Int) ≤ (1 : Nat) + _
    omega
  | pair a b iha ihb =>
    intro hw x l h0 h1
    simp only [Sh.wide, Bool.and_eq_true] at hw
    unfold Sh.sz at h1 ⊢
    have h2 := a.sz_le x.1 l h0
    split at h1
    · omega
    · rename_i hn
      rw [if_neg hn]
      have h3 := iha hw.1 x.1 l h0 (by omega)
      have h4 := ihb hw.2 x.2 _ (by omega) h1
      have e1 : (Sh.pair a b).cn x = a.cn x.1 + b.cn x.2 := rfl
      have e2 : (Sh.pair a b).cells = a.cells + b.cells := rfl
      rw [e1, e2]; omega
  | sl e ih =>
    intro hw xs l h0 h1
    simp only [Sh.wide, Bool.and_eq_true, decide_eq_true_eq] at hw
    unfold Sh.sz at h1 ⊢
    split at h1
    · omega
    · rename_i hn
      rw [if_neg hn]
      have h3 := szL_cn (c := e.cn) hw.1 e.sz_le (fun x l a b => ih hw.2 x l a b) xs _ (by omega) h1
      have e1 : (Sh.sl e).cn xs = (List.map e.cn xs).sum := rfl
      rw [e1]
      have h4 : (0 : Int) ≤ ((Sh.sl e).cells : Int) := Int.natCast_nonneg _
      omega
theorem Sh.cv_le : ∀ (s : Sh), s.wide = true → ∀ (x : s.T) (l : Int), 0 ≤ l → 0 ≤ s.sz x l → (s.cv x : Int) ≤ 100 * (l - s.sz x l) := by
  intro s
  induction s with
  | int => intro _ x l h0 h1; simp [Sh.cv, Sh.sz]
  | bool => intro _ x l h0 h1; simp [Sh.cv, Sh.sz]
  | byte => intro _ x l h0 h1; simp [Sh.cv, Sh.sz]
  | str =>
    intro _ x l h0 h1
    have := Sh.str.sz_le x l h0
    show ((0 : Nat) : Int) ≤ _
    omega
  | pair a b iha ihb =>
    intro hw x l h0 h1
    simp only [Sh.wide, Bool.and_eq_true] at hw
    unfold Sh.sz at h1 ⊢
    have h2 := a.sz_le x.1 l h0
    split at h1
    · omega
    · rename_i hn
      rw [if_neg hn]
      have h3 := iha hw.1 x.1 l h0 (by omega)
      have h4 := ihb hw.2 x.2 _ (by omega) h1
      have e1 : (Sh.pair a b).cv x = a.cv x.1 + b.cv x.2 := rfl
      rw [e1]; omega
  | sl e _ =>
    intro hw xs l h0 h1
    simp only [Sh.wide, Bool.and_eq_true, decide_eq_true_eq] at hw
    unfold Sh.sz at h1 ⊢
    split at h1
    · omega
    · rename_i hn
      rw [if_neg hn]
      have h3 := szL_cn (c := e.cn) hw.1 e.sz_le (fun x l a b => Sh.cn_le e hw.2 x l a b) xs _ (by omega) h1
      have e1 : (Sh.sl e).cv xs = (List.map e.cn xs).sum := rfl
      rw [e1]
      omega
theorem leOut {a g g' : AHeap} {J : List Nat} (le : a.Le g) (w : a.wf) (o : Out J g g') (hJ : ∀ l ∈ J, a.n ≤ l) : a.Le g' :=
  ⟨Nat.le_trans le.n o.shp.n, fun l x hx => o.get l x (fun hm => by have h1 := hJ l hm; have h2 := w.lt hx; omega) (le.get l x hx)⟩
end Go.Dat
