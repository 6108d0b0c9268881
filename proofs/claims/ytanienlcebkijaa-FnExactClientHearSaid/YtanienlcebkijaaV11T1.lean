/- Says that are right: quorums and proofs. -/
import Derived.Test.YtanienlcebkijaaV11S1
namespace Go.Dat
open Go.Abs
def AscAt {α : Type} (k : α → Int) (P : α → Prop) (xs : List α) (i : Nat) : Prop := ∃ x, xs[i]? = some x ∧ P x ∧ ∀ j, i = j + 1 → ∃ y, xs[j]? = some y ∧ k y < k x
def Asc {α : Type} (k : α → Int) (P : α → Prop) (xs : List α) : Prop := ∀ i, i < xs.length → AscAt k P xs i
theorem AscAt.mk0 {α : Type} {k : α → Int} {P : α → Prop} {xs : List α} {i : Nat} {x : α} (e : xs[i]? = some x) (h1 : P x) (hi0 : i = 0) : AscAt k P xs i := ⟨x, e, h1, fun j hj => by omega⟩
theorem AscAt.out {α : Type} {k : α → Int} {P : α → Prop} {xs : List α} {i : Nat} {x : α} (H : AscAt k P xs i) (e : xs[i]? = some x) : P x ∧ ∀ y, 0 < i → xs[i - 1]? = some y → k y < k x := by
  obtain ⟨x', e', h1, h2⟩ := H
  rw [e] at e'
  cases e'
  refine ⟨h1, fun y hp e2 => ?_⟩
  obtain ⟨y', e3, h4⟩ := h2 (i - 1) (by omega)
  rw [e2] at e3
  cases e3
  exact h4
theorem Asc.mem {α : Type} {k : α → Int} {P : α → Prop} {xs : List α} (H : Asc k P xs) {x : α} (hx : x ∈ xs) : P x := by
  obtain ⟨i, hi⟩ := List.mem_iff_getElem?.1 hx
  exact ((H i (List.getElem?_eq_some_iff.1 hi).1).out hi).1
theorem Asc.low {α : Type} {k : α → Int} {P : α → Prop} {xs : List α} (H : Asc k P xs) {lo : Int} (hP : ∀ x, P x → lo ≤ k x) : ∀ (i : Nat) (x : α), xs[i]? = some x → lo + i ≤ k x
  | 0, x, e => by have := hP x ((H 0 (List.getElem?_eq_some_iff.1 e).1).out e).1; omega
  | i + 1, x, e => by
    have hi := (List.getElem?_eq_some_iff.1 e).1
    obtain ⟨y, hy⟩ : ∃ y, xs[i]? = some y := ⟨_, List.getElem?_eq_getElem (by omega)⟩
    have h1 := Asc.low H hP i y hy
    have h2 := ((H (i + 1) hi).out e).2 y (by omega) hy
    omega
theorem Asc.len {α : Type} {k : α → Int} {P : α → Prop} {xs : List α} (H : Asc k P xs) {lo hi : Int} (hP : ∀ x, P x → InR lo hi (k x)) (hb : lo ≤ hi + 1) : (xs.length : Int) ≤ hi - lo + 1 := by
  cases hl : xs.length with
  | zero => omega
  | succ n =>
    obtain ⟨x, hx⟩ : ∃ x, xs[n]? = some x := ⟨_, List.getElem?_eq_getElem (by omega)⟩
    have h1 := H.low (fun x h => (hP x h).1) n x hx
    have h2 := (hP x (H.mem (List.mem_of_getElem? hx))).2
    omega
theorem Asc.nil {α : Type} {k : α → Int} {P : α → Prop} : Asc k P [] := fun _ hi => absurd hi (Nat.not_lt_zero _)
theorem Asc.one {α : Type} {k : α → Int} {P : α → Prop} {x : α} : Asc k P [x] ↔ P x := ⟨fun H => H.mem (List.mem_singleton.2 rfl), fun h i hi => by
  obtain rfl : i = 0 := by simp at hi; omega
  exact .mk0 rfl h rfl⟩
def QuoOk (l : List Sh.int.T) : Prop := Asc (fun x : Int => x) (InR 0 3) l ∧ 3 ≤ l.length
def PrfOk (v q : Int) (op : ByteArray) (l : List Sh.int.T) : Prop := InR 0 7 v ∧ InR 1 6 q ∧ op.size ≤ 120 ∧ QuoOk l
def ChgOk (f v : Int) (ps : List proofSh.T) : Prop := InR 0 3 f ∧ InR 1 7 v ∧ Asc (fun p : proofSh.T => p.2.1) (fun p : proofSh.T => PrfOk p.1 p.2.1 p.2.2.1 p.2.2.2 ∧ (show Int from p.1) < v) ps
def ChgsOk (v : Int) (cs : List changeSh.T) : Prop := Asc (fun c : changeSh.T => c.1) (fun c : changeSh.T => ChgOk c.1 c.2.1 c.2.2 ∧ (show Int from c.2.1) = v) cs
theorem QuoOk.len {l : List Sh.int.T} (H : QuoOk l) : l.length ≤ 4 := by
  have := H.1.len (lo := 0) (hi := 3) (fun x h => h) (by omega)
  omega
theorem ChgOk.len {f v : Int} {ps : List proofSh.T} (H : ChgOk f v ps) : ps.length ≤ 6 := by
  have := Asc.len H.2.2 (lo := 1) (hi := 6) (fun x h => h.1.2.1) (by omega)
  omega
theorem ChgsOk.len {v : Int} {cs : List changeSh.T} (H : ChgsOk v cs) : cs.length ≤ 4 := by
  have := Asc.len H (lo := 0) (hi := 3) (fun x h => h.1.1) (by omega)
  omega
theorem inT {lo hi n : Int} (h : (decide (lo ≤ n) && decide (n ≤ hi)) = true) : InR lo hi n := by simpa [InR] using h
theorem inF {lo hi n : Int} (h : (decide (lo ≤ n) && decide (n ≤ hi)) = false) : ¬ InR lo hi n := fun H => by
  obtain ⟨h1, h2⟩ := H
  simp [h1, h2] at h
theorem tr_congr {p q : Prop} (h : p ↔ q) : tr p = tr q := congrArg tr (propext h)
theorem tr_dec {p : Prop} [Decidable p] : decide p = tr p := by
  by_cases h : p
  · rw [← tr_true h]; simp [h]
  · rw [← tr_false h]; simp [h]
theorem bs_b {b : Bool} {A B : Prop} (h1 : b = true → A) (h2 : b = false → B) : bs b A B := by
  cases b with
  | true => exact h1 rfl
  | false => exact h2 rfl
end Go.Dat
namespace Go.Proofs.Ytanienlcebkijaa
open Go.Abs Go.Dat
set_option maxRecDepth 100000
set_option maxHeartbeats 8000000
end Go.Proofs.Ytanienlcebkijaa
