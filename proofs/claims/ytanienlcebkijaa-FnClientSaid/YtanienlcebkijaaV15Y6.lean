/- W6, Y2, J0, J3, J2, Y5, L3, L4, L5, N1, Y3, C4, C5, C6, C7, C8, Y6. -/
import Derived.Test.YtanienlcebkijaaV15U5
import Derived.Shelf.Strings.OnBuilder
import Derived.Test.YtanienlcebkijaaProg
import Derived.Test.YtanienlcebkijaaV15H1
import Derived.Test.YtanienlcebkijaaV15G1
import Derived.Test.YtanienlcebkijaaV15R2
section
namespace Go.Dat
open Go.Abs
structure OX (α : Type) where
  a : Option Addr
  c : Nat
  xs : List α
  ids : List Nat
  g : AHeap
def OXok (s : Sh) (h : AHeap) (o : OX s.T) : Prop := SoB s h o.g o.a o.xs.length o.c o.xs o.ids
theorem OXok.nil {s : Sh} {h : AHeap} (hw : h.wf) : OXok s h ⟨none, 0, [], [], h⟩ := SoB.nil hw
theorem OXok.grow {s : Sh} {h : AHeap} {o : OX s.T} (B : OXok s h o) {g' : AHeap} (le : o.g.Le g') (wf : g'.wf) : OXok s h ⟨o.a, o.c, o.xs, o.ids, g'⟩ := SoB.grow B le wf
theorem OXok.app {s : Sh} {h : AHeap} {o : OX s.T} (B : OXok s h o) {x : s.T} {cs : List Value} {js : List Nat} (rn : s.rn o.g x cs js) (fj : Fresh h.n o.g.n js) (d : ∀ z ∈ o.ids, z ∉ js) :
    ∃ o' : OX s.T, (o.g.push ⟨[cs], s.cells, true⟩).app (.slice o.a o.xs.length o.c) [cs] s.cells = some (.slice o'.a o'.xs.length o'.c, o'.g) ∧ OXok s h o' ∧ o'.xs = o.xs ++ [x] ∧ o.g.n ≤ o'.g.n ∧ (∀ z w, z ∉ o.ids → o.g.get z = some w → o'.g.get z = some w) ∧ ∀ z ∈ o'.ids, z = o.g.n + 1 ∨ z ∈ o.ids ∨ z ∈ js := by
  have lp := AHeap.Le.push B.wf ⟨[cs], s.cells, true⟩
  obtain ⟨l, h', ids', e, B', hn, hi, hk⟩ := (SoB.grow B lp (B.wf.push _)).app (rn.le lp) (fj.widen (Nat.le_refl _) lp.n) d
  have el : (o.xs ++ [x]).length = o.xs.length + 1 := by simp
  refine ⟨⟨some ⟨l, 0, some s.cells⟩, 0, o.xs ++ [x], ids', h'⟩, by dsimp only; rw [el]; exact e, ?_, rfl, Nat.le_trans lp.n hn, fun z w hz hw => hk z w hz (lp.get z w hw), fun z hz => hi z hz⟩
  show SoB s h h' (some ⟨l, 0, some s.cells⟩) (o.xs ++ [x]).length 0 (o.xs ++ [x]) ids'
  rw [el]; exact B'
theorem OXok.sn {s : Sh} {h : AHeap} {o : OX s.T} (B : OXok s h o) : Sn o.g s o.xs (.slice o.a o.xs.length o.c) o.ids := SoB.sn B
end Go.Dat
namespace Go.Proofs.Ytanienlcebkijaa
open Go.Abs Go.Dat
set_option maxRecDepth 100000
set_option maxHeartbeats 8000000
end Go.Proofs.Ytanienlcebkijaa
end
section
namespace Go.Proofs.Ytanienlcebkijaa
open Go.Abs Go.Dat
structure DL (s : Sh) (h : AHeap) (l : Nat) (o : OX s.T) : Prop where
  B : SoB s (E0 h.n) o.g o.a o.xs.length o.c o.xs o.ids
  out : Dr l h o.g
theorem DL.nl {s : Sh} {h : AHeap} {l : Nat} {o : OX s.T} (D : DL s h l o) : l ∉ o.ids := fun e => by
  have h1 : h.n ≤ l := (D.B.fr.bd l e).1
  have := D.out.s0.lt
  omega
theorem DL.dr {s : Sh} {h : AHeap} {l : Nat} {o : OX s.T} (D : DL s h l o) {g : AHeap} (d : Dr l o.g g) : DL s h l ⟨o.a, o.c, o.xs, o.ids, g⟩ :=
  ⟨d.sob D.B D.nl, D.out.trans d⟩
theorem DL.sn {s : Sh} {h : AHeap} {l : Nat} {o : OX s.T} (D : DL s h l o) : Sn o.g s o.xs (.slice o.a o.xs.length o.c) o.ids := D.B.sn
theorem DL.nil {s : Sh} {h : AHeap} {l : Nat} (z : Srz h l) : DL s h l ⟨none, 0, [], [], h⟩ := ⟨.new z.wf (Nat.le_refl _), .refl z⟩
theorem DL.app {s : Sh} {h : AHeap} {l : Nat} {o : OX s.T} (D : DL s h l o) {x : s.T} {cs : List Value} {js : List Nat} (rn : s.rn o.g x cs js) (fj : Fresh h.n o.g.n js) (d : ∀ z ∈ o.ids, z ∉ js) :
    ∃ (lo : Nat) (o' : OX s.T), (o.g.push ⟨[cs], s.cells, true⟩).app (.slice o.a o.xs.length o.c) [cs] s.cells = some (.slice (some ⟨lo, 0, some s.cells⟩) (o.xs.length + 1) o'.c, o'.g) ∧ o'.a = some ⟨lo, 0, some s.cells⟩ ∧ DL s h l o' ∧ o'.xs = o.xs ++ [x] ∧ ∀ z ∈ o'.ids, z = o.g.n + 1 ∨ z ∈ o.ids ∨ z ∈ js := by
  have lp := AHeap.Le.push D.out.wf ⟨[cs], s.cells, true⟩
  have wp := D.out.wf.push ⟨[cs], s.cells, true⟩
  obtain ⟨lo, h', ids', e, B', k, wf', hi⟩ := (SoB.grow D.B lp wp).app' (rn.le lp) (fj.widen (Nat.le_refl _) lp.n) d
  refine ⟨lo, ⟨some ⟨lo, 0, some s.cells⟩, 0, o.xs ++ [x], ids', h'⟩, e, rfl, ⟨?_, (D.out.le lp wp).step k wf' (fun z hz => (D.B.fr.bd z hz).1)⟩, rfl, fun z hz => hi z hz⟩
  have el : (o.xs ++ [x]).length = o.xs.length + 1 := by simp
  show SoB s (E0 h.n) h' (some ⟨lo, 0, some s.cells⟩) (o.xs ++ [x]).length 0 (o.xs ++ [x]) ids'
  rw [el]; exact B'
end Go.Proofs.Ytanienlcebkijaa
end
section
namespace Go.Proofs
open Go.Shelf
end Go.Proofs
end
section
namespace Go.Proofs.Ytanienlcebkijaa
open Go.Abs Go.Dat
set_option maxRecDepth 100000
set_option maxHeartbeats 4000000
end Go.Proofs.Ytanienlcebkijaa
end
section
namespace Go.Dat
open Go.Abs
end Go.Dat
namespace Go.Proofs.Ytanienlcebkijaa
open Go.Abs Go.Dat
set_option maxRecDepth 100000
set_option maxHeartbeats 4000000
end Go.Proofs.Ytanienlcebkijaa
end
section
namespace Go.Dat
open Go.Abs
end Go.Dat
namespace Go.Proofs.Ytanienlcebkijaa
open Go.Abs Go.Dat
set_option maxRecDepth 100000
set_option maxHeartbeats 8000000
end Go.Proofs.Ytanienlcebkijaa
end
section
namespace Go.Dat
open Go.Abs
def NRow (k : IntKind) (h : AHeap) (l n : Nat) : Prop := ∃ rows, h.get l = some ⟨rows, 1, true⟩ ∧ rows.length = n ∧ ∀ row ∈ rows, ∃ x : Int, row = [.int k x]
theorem NRow.ld {k : IntKind} {h : AHeap} {l n : Nat} (r : NRow k h l n) {i : Nat} (hi : i < n) : ∃ x : Int, h.ld l i 0 1 = some [.int k x] := by
  obtain ⟨rows, hg, hl, hr⟩ := r
  have hi' : rows[i]? = some rows[i] := List.getElem?_eq_getElem (by omega)
  obtain ⟨x, hx⟩ := hr _ (List.mem_of_getElem? hi')
  refine ⟨x, ?_⟩
  unfold AHeap.ld
  rw [hg]
  dsimp only
  rw [hi', hx]; rfl
theorem NRow.wr {k : IntKind} {h : AHeap} {l n : Nat} (r : NRow k h l n) {i : Nat} (hi : i < n) (v : Int) : ∃ h', h.wr l i 0 [.int k v] = some h' ∧ NRow k h' l n ∧ h'.n = h.n ∧ ∀ x, x ≠ l → h'.get x = h.get x := by
  obtain ⟨rows, hg, hl, hr⟩ := r
  have hi' : rows[i]? = some rows[i] := List.getElem?_eq_getElem (by omega)
  obtain ⟨x, hx⟩ := hr _ (List.mem_of_getElem? hi')
  refine ⟨h.put l (some ⟨rows.set i [.int k v], 1, true⟩), ?_, ⟨_, AHeap.get_put_eq, by simp [hl], fun row hm => ?_⟩, rfl, fun y hy => AHeap.get_put_ne hy⟩
  · unfold AHeap.wr
    rw [hg]
    dsimp only
    rw [hi', hx]; rfl
  · rcases List.mem_or_eq_of_mem_set hm with hm | rfl
    · exact hr row hm
    · exact ⟨v, rfl⟩
theorem NRow.lt {k : IntKind} {h : AHeap} {l n : Nat} (r : NRow k h l n) (wf : h.wf) : l < h.n := by
  obtain ⟨rows, hg, _⟩ := r
  exact wf.lt hg
theorem NRow.le {k : IntKind} {h h' : AHeap} {l n : Nat} (r : NRow k h l n) (le : h.Le h') : NRow k h' l n := by
  obtain ⟨rows, hg, hl, hr⟩ := r
  exact ⟨rows, le.get _ _ hg, hl, hr⟩
theorem NRow.keep {k : IntKind} {h h' : AHeap} {l n : Nat} (r : NRow k h l n) (e : h'.get l = h.get l) : NRow k h' l n := by
  obtain ⟨rows, hg, hl, hr⟩ := r
  exact ⟨rows, by rw [e]; exact hg, hl, hr⟩
structure RInv (h0 h : AHeap) (a : Option Addr) (n c : Nat) (rows : List (List Value)) : Prop where
  le : h0.Le h
  wf : h.wf
  wf0 : h0.wf
  nb : rows.length = n
  at_ : (a = none ∧ n = 0 ∧ c = 0) ∨ ∃ l, a = some ⟨l, 0, some 1⟩ ∧ h0.n ≤ l ∧ h.get l = some ⟨rows, 1, true⟩ ∧ (c = 0 ∨ c = n + 1)
theorem RInv.rowsOf {h0 h : AHeap} {a : Option Addr} {n c : Nat} {rows : List (List Value)} (I : RInv h0 h a n c rows) : h.rowsOf (.slice a n c) = some rows := by
  have nb := I.nb
  rcases I.at_ with ⟨rfl, rfl, rfl⟩ | ⟨l, rfl, _, hg, _⟩
  · rw [List.eq_nil_of_length_eq_zero nb]; rfl
  · rw [get_rowsOf hg (by omega), List.drop_zero, List.take_of_length_le (by omega)]
theorem RInv.push {h0 h : AHeap} {a : Option Addr} {n c : Nat} {rows : List (List Value)} (I : RInv h0 h a n c rows) (o : AObj) : RInv h0 (h.push o) a n c rows :=
  ⟨I.le.trans (.push I.wf _), I.wf.push _, I.wf0, I.nb, I.at_.imp id fun ⟨l, e, h1, h2, h3⟩ => ⟨l, e, h1, (AHeap.Le.push I.wf o).get l _ h2, h3⟩⟩
theorem RInv.app {h0 h : AHeap} {a : Option Addr} {n c : Nat} {rows : List (List Value)} (I : RInv h0 h a n c rows) (x : List Value) (xs : List (List Value)) :
    ∃ l h', h.app (.slice a n c) (x :: xs) 1 = some (.slice (some ⟨l, 0, some 1⟩) (n + (x :: xs).length) 0, h') ∧ h0.n ≤ l ∧ RInv h0 h' (some ⟨l, 0, some 1⟩) (n + (x :: xs).length) 0 (rows ++ x :: xs) := by
  have nb := I.nb
  have hr := I.rowsOf
  have sz : (rows ++ x :: xs).length = n + (x :: xs).length := by rw [List.length_append, nb]
  unfold AHeap.app
  dsimp only
  rcases I.at_ with ⟨rfl, rfl, rfl⟩ | ⟨l, rfl, hl, hg, hc⟩
  · have e0 : rows = [] := List.eq_nil_of_length_eq_zero nb
    subst e0
    exact ⟨h.n, _, by rw [Nat.zero_add, List.nil_append], I.le.n, I.le.trans (.push I.wf _), I.wf.push _, I.wf0, sz, .inr ⟨h.n, rfl, I.le.n, AHeap.get_push_eq, .inl rfl⟩⟩
  · dsimp only
    rw [hr]
    dsimp only
    rw [beq_self_eq_true, cond_true]
    cases hcc : (c != 0 && decide (c ≤ n + (x :: xs).length)) with
    | true =>
      rw [cond_true]
      exact ⟨h.n, _, rfl, I.le.n, I.le.trans (.push I.wf _), I.wf.push _, I.wf0, sz, .inr ⟨h.n, rfl, I.le.n, AHeap.get_push_eq, .inl rfl⟩⟩
    | false =>
      rw [cond_false, hg]
      dsimp only
      have hno : (c != 0 && decide (0 + n + (x :: xs).length ≤ rows.length)) = false := by
        rw [Bool.and_eq_false_iff]; right; rw [decide_eq_false_iff_not]; simp only [List.length_cons]; omega
      rw [cond_true, hno, cond_false]
      have w2 : (h.put l none).wf := I.wf.put (I.wf.lt hg) _
      refine ⟨h.n, _, rfl, I.le.n, (I.le.put (I.wf0 l hl) none).trans (.push w2 _), w2.push _, I.wf0, sz, .inr ⟨h.n, rfl, I.le.n, ?_, .inl rfl⟩⟩
      show ((h.put l none).push _).get (h.put l none).n = _
      rw [AHeap.get_push_eq]
end Go.Dat
namespace Go.Proofs.Ytanienlcebkijaa
open Go.Abs Go.Dat
set_option maxRecDepth 100000
set_option maxHeartbeats 8000000
end Go.Proofs.Ytanienlcebkijaa
end
section
namespace Go.Dat
open Go.Abs
end Go.Dat
namespace Go.Proofs.Ytanienlcebkijaa
open Go.Abs Go.Dat
set_option maxRecDepth 100000
set_option maxHeartbeats 8000000
end Go.Proofs.Ytanienlcebkijaa
end
section
namespace Go.Dat
open Go.Abs
structure BX where
  a : Option Addr
  n : Nat
  c : Nat
  b : ByteArray
  g : AHeap
def BXok (h : AHeap) (x : BX) : Prop := BInv h x.g x.a x.n x.c x.b
theorem BInv.grow {h0 h h' : AHeap} {a : Option Addr} {n c : Nat} {b : ByteArray} (I : BInv h0 h a n c b) (le : h.Le h') (wf : h'.wf) : BInv h0 h' a n c b :=
  ⟨I.le.trans le, wf, I.wf0, I.nb, I.at_.imp id fun ⟨l, e, h1, h2, h3⟩ => ⟨l, e, h1, le.get l _ h2, h3⟩⟩
theorem BXok.app {h : AHeap} {x : BX} (I : BXok h x) (d : ByteArray) (o : AObj) : ∃ y : BX, (x.g.push o).app (.slice x.a x.n x.c) (bytesRows d) 1 = some (.slice y.a y.n y.c, y.g) ∧ BXok h y ∧ y.n = x.n + d.size := by
  obtain ⟨a', c', h', e, I'⟩ := BInv.app (BInv.push I o) d
  exact ⟨⟨a', x.n + d.size, c', x.b ++ d, h'⟩, e, I', rfl⟩
theorem rowsV_lit2 {g : AHeap} {rows : List (List Value)} {z n c : Nat} (hl : rows.length = n) : rowsV (g.push ⟨rows, z, true⟩) (.slice (some ⟨g.n, 0, some z⟩) n c) = some rows := by
  unfold rowsV
  dsimp only
  rw [get_rowsOf AHeap.get_push_eq (by simp; omega), List.drop_zero, List.take_of_length_le (by omega)]
end Go.Dat
namespace Go.Proofs.Ytanienlcebkijaa
open Go.Abs Go.Dat
set_option maxRecDepth 100000
set_option maxHeartbeats 8000000
end Go.Proofs.Ytanienlcebkijaa
end
section
namespace Go.Dat
open Go.Abs
theorem rn_heard {h : AHeap} {x : heardSh.T} {cs : List Value} {ids : List Nat} : heardSh.rn h x cs ids ↔ cs = [.int .i64 x.1, .string x.2] ∧ ids = [] ++ ([]) := by
  constructor
  · rintro ⟨_, _, _, _, rfl, rfl, ⟨rfl, rfl⟩, rfl, rfl⟩
    exact ⟨rfl, rfl⟩
  · rintro ⟨rfl, rfl⟩
    exact ⟨[_], _, [], _, rfl, rfl, ⟨rfl, rfl⟩, rfl, rfl⟩
end Go.Dat
namespace Go.Proofs.Ytanienlcebkijaa
open Go.Abs Go.Dat
set_option maxRecDepth 100000
set_option maxHeartbeats 4000000
end Go.Proofs.Ytanienlcebkijaa
end
section
namespace Go.Proofs.Ytanienlcebkijaa
open Go.Abs Go.Dat
set_option maxRecDepth 100000
set_option maxHeartbeats 8000000
theorem sl_strs {h : AHeap} (xs : List ByteArray) (n c : Nat) (hn : xs.length = n) : Sl (h.push ⟨xs.map (fun t => [Value.string t]), 1, true⟩) Sh.str xs (.slice (some ⟨h.n, 0, some 1⟩) n c) := by
  refine ⟨_, _, _, xs.map (fun t => [Value.string t]), rfl, .inr ⟨h.n, 0, rfl⟩, ?_, hn, fun i x row h1 h2 => ?_⟩
  · show (h.push _).rowsOf (.slice (some ⟨h.n, 0, some 1⟩) n c) = _
    rw [get_rowsOf AHeap.get_push_eq (by simp; omega), List.drop_zero, List.take_of_length_le (by simp; omega)]
  · rw [List.getElem?_map, h1] at h2
    exact (Option.some.inj h2).symm
end Go.Proofs.Ytanienlcebkijaa
end
section
namespace Go.Dat
open Go.Abs
abbrev Opn := Int × ByteArray
end Go.Dat
namespace Go.Proofs.Ytanienlcebkijaa
open Go.Abs Go.Dat
set_option maxRecDepth 100000
end Go.Proofs.Ytanienlcebkijaa
end
section
namespace Go.Dat
open Go.Abs
def opAt (os : List Opn) (i : Nat) : Opn := os.getD i (0, ⟨#[]⟩)
def badOp (os : List Opn) (i : Nat) : Prop := ¬ (0 ≤ (opAt os i).1 ∧ (opAt os i).1 ≤ 3) ∨ (0 < i ∧ (opAt os (i - 1)).1 ≥ (opAt os i).1) ∨ (opAt os i).2.size ≠ 32
instance (os : List Opn) (i : Nat) : Decidable (badOp os i) := by unfold badOp; exact inferInstance
end Go.Dat
namespace Go.Proofs.Ytanienlcebkijaa
open Go.Abs Go.Dat
set_option maxRecDepth 100000
end Go.Proofs.Ytanienlcebkijaa
end
section
namespace Go.Dat
open Go.Abs
end Go.Dat
namespace Go.Proofs.Ytanienlcebkijaa
open Go.Abs Go.Dat
set_option maxRecDepth 100000
end Go.Proofs.Ytanienlcebkijaa
end
section
namespace Go.Dat
open Go.Abs
end Go.Dat
namespace Go.Proofs.Ytanienlcebkijaa
open Go.Abs Go.Dat
set_option maxRecDepth 100000
end Go.Proofs.Ytanienlcebkijaa
end
section
namespace Go.Dat
open Go.Abs
end Go.Dat
namespace Go.Proofs.Ytanienlcebkijaa
open Go.Abs Go.Dat
set_option maxRecDepth 100000
end Go.Proofs.Ytanienlcebkijaa
end
section
namespace Go.Dat
open Go.Abs
theorem lit_at {g : AHeap} {l : Nat} {xs : List Int} {i : Nat} (hg : g.get l = some ⟨xs.map (fun v => [Value.int .i64 v]), 1, true⟩) (hi : i < xs.length) : ∃ v ∈ xs, g.ld l i 0 1 = some [.int .i64 v] := by
  refine ⟨xs[i], List.getElem_mem hi, ?_⟩
  unfold AHeap.ld
  rw [hg]
  dsimp only
  rw [List.getElem?_map, List.getElem?_eq_getElem hi]; rfl
theorem zeros_at {g : AHeap} {l n c : Nat} (hg : g.get l = some ⟨List.replicate n [Value.int .u8 (Int.ofNat 0)], 1, true⟩) : g.rowsOf (.slice (some ⟨l, 0, some 1⟩) n c) = some (bytesRows ⟨Array.replicate n 0⟩) := by
  rw [get_rowsOf hg (by simp), List.drop_zero, List.take_of_length_le (by simp)]
  unfold bytesRows; simp
end Go.Dat
namespace Go.Proofs.Ytanienlcebkijaa
open Go.Abs Go.Dat
set_option maxRecDepth 100000
set_option maxHeartbeats 8000000
end Go.Proofs.Ytanienlcebkijaa
end
