/- Heaps that grow: what was there stays. -/
import Derived.Test.YtanienlcebkijaaV11A22
namespace Go.Abs
def AHeap.wf (h : AHeap) : Prop := ∀ l, h.n ≤ l → h.get l = none
structure AHeap.Le (h h' : AHeap) : Prop where
  n : h.n ≤ h'.n
  get : ∀ l o, h.get l = some o → h'.get l = some o
theorem AHeap.Le.refl (h : AHeap) : h.Le h := ⟨Nat.le_refl _, fun _ _ e => e⟩
theorem AHeap.Le.trans {a b c : AHeap} (x : a.Le b) (y : b.Le c) : a.Le c := ⟨Nat.le_trans x.n y.n, fun l o e => y.get l o (x.get l o e)⟩
theorem AHeap.wf.lt {h : AHeap} (w : h.wf) {l : Nat} {o : AObj} (e : h.get l = some o) : l < h.n := by
  rcases Nat.lt_or_ge l h.n with hl | hl
  · exact hl
  · rw [w l hl] at e; cases e
theorem AHeap.wf.push {h : AHeap} (w : h.wf) (o : AObj) : (h.push o).wf := fun l hl => by
  have hl' : h.n + 1 ≤ l := hl
  rw [AHeap.get_push_ne (by omega)]; exact w l (by omega)
theorem AHeap.Le.push {h : AHeap} (w : h.wf) (o : AObj) : h.Le (h.push o) := ⟨Nat.le_succ _, fun l x e => by
  rw [AHeap.get_push_ne (Nat.ne_of_lt (w.lt e))]; exact e⟩
theorem AHeap.wf.put {h : AHeap} (w : h.wf) {l : Nat} (hl : l < h.n) (o : Option AObj) : (h.put l o).wf := fun x hx => by
  have hx' : h.n ≤ x := hx
  rw [AHeap.get_put_ne (by omega)]; exact w x hx'
theorem AHeap.Le.put {a h : AHeap} (x : a.Le h) {l : Nat} (hl : a.get l = none) (o : Option AObj) : a.Le (h.put l o) := ⟨x.n, fun y q e => by
  have : y ≠ l := fun e' => by subst e'; rw [hl] at e; cases e
  rw [AHeap.get_put_ne this]; exact x.get y q e⟩
theorem AHeap.Le.ld {h h' : AHeap} (x : h.Le h') {l r c n : Nat} {vs : List Value} (e : h.ld l r c n = some vs) : h'.ld l r c n = some vs := by
  unfold AHeap.ld at e ⊢
  split at e
  · rename_i o ho; rw [x.get l o ho]; exact e
  · cases e
theorem AHeap.Le.rowsOf {h h' : AHeap} (x : h.Le h') {v : Value} {rows : List (List Value)} (e : h.rowsOf v = some rows) : h'.rowsOf v = some rows := by
  unfold AHeap.rowsOf at e ⊢
  split at e
  · exact e
  · rename_i l r e' n c
    split at e
    · rename_i o ho; rw [x.get l o ho]; exact e
    · cases e
  · cases e
def PCall (P : Program) (f : FuncId) (args : List Value) (h : AHeap) (Q : Value → AHeap → Prop) : Prop := ∃ v h', ACall P f args h v h' ∧ h.Le h' ∧ h'.wf ∧ Q v h'
end Go.Abs
