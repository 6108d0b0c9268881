/- From a contract to the kit's calls; heaps of read-only inputs. -/
import Derived.Test.YtanienlcebkijaaV11A21
namespace Go.Abs
theorem law_calls {P : Program} {f : FuncId} {args : List Value} {h h' : AHeap} {L : Lay} {W : World} {ARGS : Array Value} (hA : ACall P f args h (.bool true) h')
    (hrel : Rel L (fun b => b < W.heap.size) (fun b => b < W.heap.size) W W h) (harg : ARel L args.toArray ARGS) :
    Calls P f ARGS W fun e W' => e = .returned (.bool true) ∧ RowKit.Below W.heap.size W W' := by
  refine (hA L _ _ W W ARGS hrel harg).mono ?_
  rintro e W' ⟨V, L', rfl, hext, hv, hr⟩
  have e1 : V = .bool true := by cases hv; rfl
  subst e1
  have k := hr.keeps
  exact ⟨rfl, k.os, k.tape, k.output, k.size, k.block⟩
structure InObj where
  blk : Nat
  base : Nat
  esz : Nat
  rows : List (List Value)
def inHeap (os : List InObj) : AHeap := ⟨os.length, fun l => (os[l]?).map fun o => ⟨o.rows, o.esz, false⟩⟩
def inLay (os : List InObj) : Lay := fun l => (os[l]?).map fun o => ⟨o.blk, o.base, o.esz, 0, false⟩
theorem in_rel {os : List InObj} {W : World} (hlt : ∀ (i : Nat) (o : InObj), os[i]? = some o → o.blk < W.heap.size) (hlen : ∀ (i : Nat) (o : InObj), os[i]? = some o → ∀ (r : Nat) (row : List Value), o.rows[r]? = some row → row.length = o.esz)
    (hcell : ∀ (i : Nat) (o : InObj), os[i]? = some o → ∀ (r : Nat) (row : List Value), o.rows[r]? = some row → ∀ (j : Nat) (v : Value), row[j]? = some v → ∃ V, W.cell? ⟨o.blk, o.base + r * o.esz + j, none⟩ = some V ∧ VRel (inLay os) v V) :
    Rel (inLay os) (fun b => b < W.heap.size) (fun b => b < W.heap.size) W W (inHeap os) := by
  have key : ∀ l o s, (inHeap os).get l = some o → inLay os l = some s → ∃ q, os[l]? = some q ∧ o = ⟨q.rows, q.esz, false⟩ ∧ s = ⟨q.blk, q.base, q.esz, 0, false⟩ := by
    intro l o s h1 h2
    unfold inHeap at h1
    unfold inLay at h2
    dsimp only at h1
    cases hq : os[l]? with
    | none => rw [hq] at h1; cases h1
    | some q => rw [hq] at h1 h2; exact ⟨q, rfl, (Option.some.inj h1).symm, (Option.some.inj h2).symm⟩
  refine ⟨Keeps.refl _ _, fun b h => h, fun b h => h, ?_, ?_, ?_, ?_, ?_, ?_⟩
  · intro l hl
    show (os[l]?).map _ = none
    rw [List.getElem?_eq_none hl]; rfl
  · intro l hl
    show (os[l]?).map _ = none
    rw [List.getElem?_eq_none hl]; rfl
  · intro l o s h1 h2
    obtain ⟨q, hq, rfl, rfl⟩ := key l o s h1 h2
    exact ⟨rfl, rfl, hlt l q hq, hlen l q hq, hcell l q hq, fun h => by cases h⟩
  · intro l o s h1 h2 h3
    obtain ⟨q, hq, rfl, rfl⟩ := key l o s h1 h2
    cases h3
  · intro l o s h1 h2 h3
    obtain ⟨q, hq, rfl, rfl⟩ := key l o s h1 h2
    exact hlt l q hq
  · intro l l' o o' s s' h1 h1' h2 h2' h3
    obtain ⟨q, hq, rfl, rfl⟩ := key l o s h1 h2
    cases h3
end Go.Abs
