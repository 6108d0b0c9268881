/- L3, L4, L5, Y3, C4, C5, C6, C7, C8, Y6, Y8, Q3. -/
import Derived.Test.YtanienlcebkijaaV16Y5
import Derived.Test.YtanienlcebkijaaV16S1
import Derived.Test.YtanienlcebkijaaV16S2
import Derived.Test.YtanienlcebkijaaV16F4
import Derived.Test.YtanienlcebkijaaV16T1
section
namespace Go.Dat
open Go.Abs
def NRow (k : IntKind) (h : AHeap) (l n : Nat) : Prop := ∃ rows, h.get l = some ⟨rows, 1, true⟩ ∧ rows.length = n ∧ ∀ row ∈ rows, ∃ x : Int, row = [.int k x]
theorem NRow.ld {k : IntKind} {h : AHeap} {l n : Nat} (r : NRow k h l n) {i : Nat} (hi : i < n) : ∃ x : Int, h.ld l i 0 1 = some [.int k x] := by
  obtain ⟨rows, hg, hl, hr⟩ := r
  have hi' : rows[i]? = some rows[i] := List.getElem?_eq_getElem (by omega)
  obtain ⟨x, hx⟩ := hr _ (List.mem_of_getElem? hi')
  refine ⟨x, ?_⟩
  unfold AHeap.ld
  rw [hg]
  dsimp only
  rw [hi', hx]; rfl
theorem NRow.wr {k : IntKind} {h : AHeap} {l n : Nat} (r : NRow k h l n) {i : Nat} (hi : i < n) (v : Int) : ∃ h', h.wr l i 0 [.int k v] = some h' ∧ NRow k h' l n ∧ h'.n = h.n ∧ ∀ x, x ≠ l → h'.get x = h.get x := by
  obtain ⟨rows, hg, hl, hr⟩ := r
  have hi' : rows[i]? = some rows[i] := List.getElem?_eq_getElem (by omega)
  obtain ⟨x, hx⟩ := hr _ (List.mem_of_getElem? hi')
  refine ⟨h.put l (some ⟨rows.set i [.int k v], 1, true⟩), ?_, ⟨_, AHeap.get_put_eq, by simp [hl], fun row hm => ?_⟩, rfl, fun y hy => AHeap.get_put_ne hy⟩
  · unfold AHeap.wr
    rw [hg]
    dsimp only
    rw [hi', hx]; rfl
  · rcases List.mem_or_eq_of_mem_set hm with hm | rfl
    · exact hr row hm
    · exact ⟨v, rfl⟩
theorem NRow.lt {k : IntKind} {h : AHeap} {l n : Nat} (r : NRow k h l n) (wf : h.wf) : l < h.n := by
  obtain ⟨rows, hg, _⟩ := r
  exact wf.lt hg
theorem NRow.le {k : IntKind} {h h' : AHeap} {l n : Nat} (r : NRow k h l n) (le : h.Le h') : NRow k h' l n := by
  obtain ⟨rows, hg, hl, hr⟩ := r
  exact ⟨rows, le.get _ _ hg, hl, hr⟩
theorem NRow.keep {k : IntKind} {h h' : AHeap} {l n : Nat} (r : NRow k h l n) (e : h'.get l = h.get l) : NRow k h' l n := by
  obtain ⟨rows, hg, hl, hr⟩ := r
  exact ⟨rows, by rw [e]; exact hg, hl, hr⟩
structure RInv (h0 h : AHeap) (a : Option Addr) (n c : Nat) (rows : List (List Value)) : Prop where
  le : h0.Le h
  wf : h.wf
  wf0 : h0.wf
  nb : rows.length = n
  at_ : (a = none ∧ n = 0 ∧ c = 0) ∨ ∃ l, a = some ⟨l, 0, some 1⟩ ∧ h0.n ≤ l ∧ h.get l = some ⟨rows, 1, true⟩ ∧ (c = 0 ∨ c = n + 1)
theorem RInv.rowsOf {h0 h : AHeap} {a : Option Addr} {n c : Nat} {rows : List (List Value)} (I : RInv h0 h a n c rows) : h.rowsOf (.slice a n c) = some rows := by
  have nb := I.nb
  rcases I.at_ with ⟨rfl, rfl, rfl⟩ | ⟨l, rfl, _, hg, _⟩
  · rw [List.eq_nil_of_length_eq_zero nb]; rfl
  · rw [get_rowsOf hg (by omega), List.drop_zero, List.take_of_length_le (by omega)]
theorem RInv.push {h0 h : AHeap} {a : Option Addr} {n c : Nat} {rows : List (List Value)} (I : RInv h0 h a n c rows) (o : AObj) : RInv h0 (h.push o) a n c rows :=
  ⟨I.le.trans (.push I.wf _), I.wf.push _, I.wf0, I.nb, I.at_.imp id fun ⟨l, e, h1, h2, h3⟩ => ⟨l, e, h1, (AHeap.Le.push I.wf o).get l _ h2, h3⟩⟩
theorem RInv.app {h0 h : AHeap} {a : Option Addr} {n c : Nat} {rows : List (List Value)} (I : RInv h0 h a n c rows) (x : List Value) (xs : List (List Value)) :
    ∃ l h', h.app (.slice a n c) (x :: xs) 1 = some (.slice (some ⟨l, 0, some 1⟩) (n + (x :: xs).length) 0, h') ∧ h0.n ≤ l ∧ RInv h0 h' (some ⟨l, 0, some 1⟩) (n + (x :: xs).length) 0 (rows ++ x :: xs) := by
  have nb := I.nb
  have hr := I.rowsOf
  have sz : (rows ++ x :: xs).length = n + (x :: xs).length := by rw [List.length_append, nb]
  unfold AHeap.app
  dsimp only
  rcases I.at_ with ⟨rfl, rfl, rfl⟩ | ⟨l, rfl, hl, hg, hc⟩
  · have e0 : rows = [] := List.eq_nil_of_length_eq_zero nb
    subst e0
    exact ⟨h.n, _, by rw [Nat.zero_add, List.nil_append], I.le.n, I.le.trans (.push I.wf _), I.wf.push _, I.wf0, sz, .inr ⟨h.n, rfl, I.le.n, AHeap.get_push_eq, .inl rfl⟩⟩
  · dsimp only
    rw [hr]
    dsimp only
    rw [beq_self_eq_true, cond_true]
    cases hcc : (c != 0 && decide (c ≤ n + (x :: xs).length)) with
    | true =>
      rw [cond_true]
      exact ⟨h.n, _, rfl, I.le.n, I.le.trans (.push I.wf _), I.wf.push _, I.wf0, sz, .inr ⟨h.n, rfl, I.le.n, AHeap.get_push_eq, .inl rfl⟩⟩
    | false =>
      rw [cond_false, hg]
      dsimp only
      have hno : (c != 0 && decide (0 + n + (x :: xs).length ≤ rows.length)) = false := by
        rw [Bool.and_eq_false_iff]; right; rw [decide_eq_false_iff_not]; simp only [List.length_cons]; omega
      rw [cond_true, hno, cond_false]
      have w2 : (h.put l none).wf := I.wf.put (I.wf.lt hg) _
      refine ⟨h.n, _, rfl, I.le.n, (I.le.put (I.wf0 l hl) none).trans (.push w2 _), w2.push _, I.wf0, sz, .inr ⟨h.n, rfl, I.le.n, ?_, .inl rfl⟩⟩
      show ((h.put l none).push _).get (h.put l none).n = _
      rw [AHeap.get_push_eq]
end Go.Dat
namespace Go.Proofs.Ytanienlcebkijaa
open Go.Abs Go.Dat
set_option maxRecDepth 100000
set_option maxHeartbeats 8000000
end Go.Proofs.Ytanienlcebkijaa
end
section
namespace Go.Dat
open Go.Abs
end Go.Dat
namespace Go.Proofs.Ytanienlcebkijaa
open Go.Abs Go.Dat
set_option maxRecDepth 100000
set_option maxHeartbeats 8000000
end Go.Proofs.Ytanienlcebkijaa
end
section
namespace Go.Dat
open Go.Abs
structure BX where
  a : Option Addr
  n : Nat
  c : Nat
  b : ByteArray
  g : AHeap
def BXok (h : AHeap) (x : BX) : Prop := BInv h x.g x.a x.n x.c x.b
theorem BInv.grow {h0 h h' : AHeap} {a : Option Addr} {n c : Nat} {b : ByteArray} (I : BInv h0 h a n c b) (le : h.Le h') (wf : h'.wf) : BInv h0 h' a n c b :=
  ⟨I.le.trans le, wf, I.wf0, I.nb, I.at_.imp id fun ⟨l, e, h1, h2, h3⟩ => ⟨l, e, h1, le.get l _ h2, h3⟩⟩
theorem BXok.app {h : AHeap} {x : BX} (I : BXok h x) (d : ByteArray) (o : AObj) : ∃ y : BX, (x.g.push o).app (.slice x.a x.n x.c) (bytesRows d) 1 = some (.slice y.a y.n y.c, y.g) ∧ BXok h y ∧ y.n = x.n + d.size := by
  obtain ⟨a', c', h', e, I'⟩ := BInv.app (BInv.push I o) d
  exact ⟨⟨a', x.n + d.size, c', x.b ++ d, h'⟩, e, I', rfl⟩
theorem rowsB (xs : List Int) (hb : ∀ x ∈ xs, 0 ≤ x ∧ x ≤ 255) : ∃ s : ByteArray, bytesRows s = xs.map (fun x => [Value.int .u8 x]) ∧ s.size = xs.length := by
  refine ⟨⟨(xs.map fun x => UInt8.ofNat x.toNat).toArray⟩, ?_, ?_⟩
  · unfold bytesRows
    simp only [List.map_map]
    refine List.map_congr_left fun x hxm => ?_
    have := hb x hxm
    simp only [Function.comp, List.cons.injEq, Value.int.injEq, true_and, and_true]
    rw [UInt8.toNat_ofNat']
    omega
  · show (List.toArray _).size = _
    simp
theorem rowsV_lit2 {g : AHeap} {rows : List (List Value)} {z n c : Nat} (hl : rows.length = n) : rowsV (g.push ⟨rows, z, true⟩) (.slice (some ⟨g.n, 0, some z⟩) n c) = some rows := by
  unfold rowsV
  dsimp only
  rw [get_rowsOf AHeap.get_push_eq (by simp; omega), List.drop_zero, List.take_of_length_le (by omega)]
theorem BXok.lit {h : AHeap} {x : BX} (B : BXok h x) (xs : List Int) (hb : ∀ v ∈ xs, 0 ≤ v ∧ v ≤ 255) : ∃ y : BX, (x.g.push ⟨xs.map (fun v => [Value.int .u8 v]), 1, true⟩).app (.slice x.a x.n x.c) (xs.map (fun v => [Value.int .u8 v])) 1 = some (.slice y.a y.n y.c, y.g) ∧ BXok h y ∧ y.n = x.n + xs.length := by
  obtain ⟨d, hd, hs⟩ := rowsB xs hb
  obtain ⟨y, e, B', hn⟩ := B.app d ⟨bytesRows d, 1, true⟩
  rw [hd] at e
  exact ⟨y, e, B', by rw [hn, hs]⟩
end Go.Dat
namespace Go.Proofs.Ytanienlcebkijaa
open Go.Abs Go.Dat
set_option maxRecDepth 100000
set_option maxHeartbeats 8000000
end Go.Proofs.Ytanienlcebkijaa
end
section
namespace Go.Proofs.Ytanienlcebkijaa
open Go.Abs Go.Dat
set_option maxRecDepth 100000
set_option maxHeartbeats 8000000
theorem sl_strs {h : AHeap} (xs : List ByteArray) (n c : Nat) (hn : xs.length = n) : Sl (h.push ⟨xs.map (fun t => [Value.string t]), 1, true⟩) Sh.str xs (.slice (some ⟨h.n, 0, some 1⟩) n c) := by
  refine ⟨_, _, _, xs.map (fun t => [Value.string t]), rfl, .inr ⟨h.n, 0, rfl⟩, ?_, hn, fun i x row h1 h2 => ?_⟩
  · show (h.push _).rowsOf (.slice (some ⟨h.n, 0, some 1⟩) n c) = _
    rw [get_rowsOf AHeap.get_push_eq (by simp; omega), List.drop_zero, List.take_of_length_le (by simp; omega)]
  · rw [List.getElem?_map, h1] at h2
    exact (Option.some.inj h2).symm
end Go.Proofs.Ytanienlcebkijaa
end
section
namespace Go.Dat
open Go.Abs
abbrev Opn := Int × ByteArray
end Go.Dat
namespace Go.Proofs.Ytanienlcebkijaa
open Go.Abs Go.Dat
set_option maxRecDepth 100000
end Go.Proofs.Ytanienlcebkijaa
end
section
namespace Go.Dat
open Go.Abs
def opAt (os : List Opn) (i : Nat) : Opn := os.getD i (0, ⟨#[]⟩)
def badOp (os : List Opn) (i : Nat) : Prop := ¬ (0 ≤ (opAt os i).1 ∧ (opAt os i).1 ≤ 3) ∨ (0 < i ∧ (opAt os (i - 1)).1 ≥ (opAt os i).1) ∨ (opAt os i).2.size ≠ 32
instance (os : List Opn) (i : Nat) : Decidable (badOp os i) := by unfold badOp; exact inferInstance
end Go.Dat
namespace Go.Proofs.Ytanienlcebkijaa
open Go.Abs Go.Dat
set_option maxRecDepth 100000
end Go.Proofs.Ytanienlcebkijaa
end
section
namespace Go.Dat
open Go.Abs
end Go.Dat
namespace Go.Proofs.Ytanienlcebkijaa
open Go.Abs Go.Dat
set_option maxRecDepth 100000
end Go.Proofs.Ytanienlcebkijaa
end
section
namespace Go.Dat
open Go.Abs
end Go.Dat
namespace Go.Proofs.Ytanienlcebkijaa
open Go.Abs Go.Dat
set_option maxRecDepth 100000
end Go.Proofs.Ytanienlcebkijaa
end
section
namespace Go.Dat
open Go.Abs
end Go.Dat
namespace Go.Proofs.Ytanienlcebkijaa
open Go.Abs Go.Dat
set_option maxRecDepth 100000
end Go.Proofs.Ytanienlcebkijaa
end
section
namespace Go.Dat
open Go.Abs
theorem lit_at {g : AHeap} {l : Nat} {xs : List Int} {i : Nat} (hg : g.get l = some ⟨xs.map (fun v => [Value.int .i64 v]), 1, true⟩) (hi : i < xs.length) : ∃ v ∈ xs, g.ld l i 0 1 = some [.int .i64 v] := by
  refine ⟨xs[i], List.getElem_mem hi, ?_⟩
  unfold AHeap.ld
  rw [hg]
  dsimp only
  rw [List.getElem?_map, List.getElem?_eq_getElem hi]; rfl
theorem zeros_at {g : AHeap} {l n c : Nat} (hg : g.get l = some ⟨List.replicate n [Value.int .u8 (Int.ofNat 0)], 1, true⟩) : g.rowsOf (.slice (some ⟨l, 0, some 1⟩) n c) = some (bytesRows ⟨Array.replicate n 0⟩) := by
  rw [get_rowsOf hg (by simp), List.drop_zero, List.take_of_length_le (by simp)]
  unfold bytesRows; simp
end Go.Dat
namespace Go.Proofs.Ytanienlcebkijaa
open Go.Abs Go.Dat
set_option maxRecDepth 100000
set_option maxHeartbeats 8000000
end Go.Proofs.Ytanienlcebkijaa
end
section
namespace Go.Proofs.Ytanienlcebkijaa
open Go.Abs Go.Dat
set_option maxRecDepth 100000
set_option maxHeartbeats 8000000
theorem kN {h g : AHeap} {l : Nat} (d : Dr l h g) (most : Int) (hm : -9223372036854775808 ≤ most ∧ most ≤ 9223372036854775807) {K : Int → AHeap → Prop} (hK : ∀ r g', 0 ≤ r → (most ≤ 1 → r = 0) → (1 < most → r < most) → Dr l h g' → K r g') :
    ∃ r g', ACall Try.prog 69 [.pointer (some ⟨l, 0, some 0⟩), .int .i64 most] g (.int .i64 r) g' ∧ K r g' := by
  obtain ⟨r, g', hA, h1, h2, h3, d'⟩ := dr_n g l d.src most hm
  exact ⟨r, g', hA, hK r g' h1 h2 h3 (d.trans d')⟩
theorem kOne {h g : AHeap} {l : Nat} (d : Dr l h g) (most : Int) (hm : -9223372036854775808 ≤ most ∧ most ≤ 9223372036854775807) {K : Bool → AHeap → Prop} (hK : ∀ r g', Dr l h g' → K r g') :
    ∃ r g', ACall Try.prog 66 [.pointer (some ⟨l, 0, some 0⟩), .int .i64 most] g (.bool r) g' ∧ K r g' := by
  obtain ⟨r, g', hA, d'⟩ := dr_one g l d.src most hm
  exact ⟨r, g', hA, hK r g' (d.trans d')⟩
theorem kPick {h g : AHeap} {l : Nat} (d : Dr l h g) (xs : List ByteArray) (n c m : Nat) (hn : xs.length = n) (h2 : 1 < n ∧ n ≤ 1000) (hm : ∀ t ∈ xs, t.size ≤ m) {K : ByteArray → AHeap → Prop} (hK : ∀ t g', t ∈ xs → t.size ≤ m → Dr l h g' → K t g') :
    ∃ t g', ACall Try.prog 68 [.pointer (some ⟨l, 0, some 0⟩), .slice (some ⟨g.n, 0, some 1⟩) n c] (g.push ⟨xs.map (fun t => [Value.string t]), 1, true⟩) (.string t) g' ∧ K t g' := by
  have lp := AHeap.Le.push d.wf ⟨xs.map (fun t => [Value.string t]), 1, true⟩
  have d2 := d.le lp (d.wf.push _)
  obtain ⟨t, g', hA, ht, d'⟩ := dr_pick _ l d2.src (some ⟨g.n, 0, some 1⟩) n c xs (sl_strs xs n c hn) (fun l2 r e => by cases e; have := d.src.lt; omega) (by omega)
  exact ⟨t, g', hA, hK t g' ht (hm t ht) (d2.trans d')⟩
theorem kLit {h g : AHeap} {l : Nat} (d : Dr l h g) (xs : List Int) (most : Int) (hn : (xs.length : Int) = most) (h2 : 1 < most ∧ most ≤ 1000) {K : Int → AHeap → Prop} (hK : ∀ v g', v ∈ xs → Dr l h g' → K v g') :
    ∃ r g', ACall Try.prog 69 [.pointer (some ⟨l, 0, some 0⟩), .int .i64 most] (g.push ⟨xs.map (fun t => [Value.int .i64 t]), 1, true⟩) (.int .i64 r) g' ∧
      ∃ l2 r2, some (⟨g.n, 0, some 1⟩ : Addr) = some ⟨l2, r2, some 1⟩ ∧ 0 ≤ r ∧ r < most ∧ ∃ v, g'.ld l2 (r2 + r.toNat) 0 1 = some [.int .i64 v] ∧ K v g' := by
  have lp := AHeap.Le.push d.wf ⟨xs.map (fun t => [Value.int .i64 t]), 1, true⟩
  have d2 := d.le lp (d.wf.push _)
  obtain ⟨r, g', hA, h1, _, h3, d'⟩ := dr_n _ l d2.src most (by omega)
  have h3 := h3 (by omega)
  have hg := d'.kp.get g.n _ (by have := d.src.lt; simp; omega) AHeap.get_push_eq
  obtain ⟨v, hv, hld⟩ := lit_at (xs := xs) hg (i := r.toNat) (by omega)
  exact ⟨r, g', hA, g.n, 0, rfl, h1, h3, v, by rw [Nat.zero_add]; exact hld, hK v g' hv (d2.trans d')⟩
theorem kMake {h g : AHeap} {l : Nat} (d : Dr l h g) (base most : Int) (hb : 0 ≤ base ∧ base ≤ 1000000) (hm : 1 ≤ most ∧ most ≤ 1000000) {K : ByteArray → AHeap → Prop} (hK : ∀ t g', ((ByteArray.size t : Nat) : Int) ≤ base + most → Dr l h g' → K t g') :
    ∃ r g', ACall Try.prog 69 [.pointer (some ⟨l, 0, some 0⟩), .int .i64 most] g (.int .i64 r) g' ∧
      0 ≤ IntKind.i64.wrap (base + r) ∧ IntKind.i64.wrap (base + r) ≤ IntKind.i64.wrap (base + r) ∧ IntKind.i64.wrap (base + r) * ((1 : Nat) : Int) ≤ 140737488355328 ∧
      ∃ s, (g'.push ⟨List.replicate (IntKind.i64.wrap (base + r)).toNat [Value.int .u8 (Int.ofNat 0)], 1, true⟩).rowsOf (.slice (some ⟨g'.n, 0, some 1⟩) (IntKind.i64.wrap (base + r)).toNat ((IntKind.i64.wrap (base + r)).toNat + 1)) = some (bytesRows s) ∧
        K s (g'.push ⟨List.replicate (IntKind.i64.wrap (base + r)).toNat [Value.int .u8 (Int.ofNat 0)], 1, true⟩) := by
  obtain ⟨r, g', hA, h1, h2, h3, d'⟩ := dr_n g l d.src most (by omega)
  have hr : r < most := by
    by_cases e : most ≤ 1
    · have := h2 e; omega
    · exact h3 (by omega)
  have ew : IntKind.i64.wrap (base + r) = base + r := wrap_i64 (by omega)
  have lp := AHeap.Le.push d'.wf ⟨List.replicate (IntKind.i64.wrap (base + r)).toNat [Value.int .u8 (Int.ofNat 0)], 1, true⟩
  refine ⟨r, g', hA, by omega, by omega, by omega, _, zeros_at AHeap.get_push_eq, hK _ _ ?_ ((d.trans d').le lp (d'.wf.push _))⟩
  show ((Array.replicate _ (0 : UInt8)).size : Int) ≤ _
  rw [Array.size_replicate]; omega
end Go.Proofs.Ytanienlcebkijaa
end
section
namespace Go.Proofs.Ytanienlcebkijaa
open Go.Abs Go.Dat
set_option maxRecDepth 100000
set_option maxHeartbeats 8000000
theorem sn_ints {g : AHeap} {y : Nat} {xs : List Int} {n c : Nat} (hg : g.get y = some ⟨xs.map (fun t => [Value.int .i64 t]), 1, true⟩) (hn : xs.length = n) : Sn g Sh.int xs (.slice (some ⟨y, 0, some 1⟩) n c) [y] := by
  refine ⟨_, n, c, rfl, hn, .inr ⟨y, 0, _, List.replicate n [], rfl, hg, by simp; omega, by simp, by simp, fun i x row js h1 h2 h3 => ?_⟩⟩
  rw [Nat.zero_add, List.getElem?_map, h1] at h2
  have h4 := List.eq_of_mem_replicate (List.mem_of_getElem? h3)
  exact ⟨(Option.some.inj h2).symm, h4⟩
theorem dr_op (h : AHeap) (l : Nat) (s : Srz h l) : ∃ t h', ACall Try.prog 152 [.pointer (some ⟨l, 0, some 0⟩)] h (.string t) h' ∧ t.size ≤ 1 ∧ Dr l h h' := by
  have : ∃ v h', ACall Try.prog 152 [.pointer (some ⟨l, 0, some 0⟩)] h v h' ∧ ∃ t : ByteArray, v = .string t ∧ t.size ≤ 1 ∧ Dr l h h' := by
    refine acall_q fun Q HQ => ?_
    refine acall_vc (fun _ => false) (fun _ => []) (fun _ => .none) mixed Try.func152 rfl rfl rfl (Nat.le_of_ble_eq_true rfl) (by refine vc_mp (by kernel_rfl : (True ∧ True ∧ True) = _) ?_; simp only [and_self]) ?_
    refine vc_mp (by kernel_rfl : (∃ (x : ByteArray), ∃ (h' : AHeap), ACall Try.prog (68 : Nat) [Value.pointer (some (Addr.mk l (0 : Nat) (some (0 : Nat)))), Value.slice (some (Addr.mk (AHeap.n h) (0 : Nat) (some (1 : Nat)))) (4 : Nat) (5 : Nat)] (AHeap.push h (AObj.mk [[Value.string (ByteArray.mk (Array.mk []))], [Value.string (ByteArray.mk (Array.mk [(97 : UInt8)]))], [Value.string (ByteArray.mk (Array.mk [(98 : UInt8)]))], [Value.string (ByteArray.mk (Array.mk [(99 : UInt8)]))]] (1 : Nat) true)) (Value.string x) h' ∧ Q (Value.string x) h') = _) ?_
    exact kPick (Dr.refl s) [⟨#[]⟩, ⟨#[97]⟩, ⟨#[98]⟩, ⟨#[99]⟩] 4 5 1 rfl (by omega) (by decide) fun t g _ ht d => HQ _ _ ⟨t, rfl, ht, d⟩
  obtain ⟨_, h', A, t, rfl, h1, h2⟩ := this
  exact ⟨t, h', A, h1, h2⟩
def PrfD (v q : Int) (op : ByteArray) (l : List Sh.int.T) : Prop := proofSh.ok (v, q, op, l) ∧ l.length ≤ 4
theorem dr_proof (h : AHeap) (l : Nat) (s : Srz h l) (view seq : Int) (bv : -9223372036854775808 ≤ view ∧ view ≤ 9223372036854775807) (bs_ : -9223372036854775808 ≤ seq ∧ seq ≤ 9223372036854775807) :
    ∃ r h', ACall Try.prog 101 [.pointer (some ⟨l, 0, some 0⟩), .int .i64 view, .int .i64 seq] h r h' ∧ Dr l h h' ∧ ∃ (v : Int) (op : ByteArray) (xs : List Int) (a : Option Addr) (n c : Nat) (ids : List Nat), r = .agg #[.int .i64 v, .int .i64 seq, .string op, .slice a n c] ∧ Sn h' Sh.int xs (.slice a n c) ids ∧ Fresh h.n h'.n ids ∧ PrfD v seq op xs := by
  refine acall_q fun Q HQ => ?_
  refine acall_vc (fun _ => false) (fun _ => []) (fun _ => .none) mixed Try.func101 rfl rfl rfl (Nat.le_of_ble_eq_true rfl) (by refine vc_mp (by kernel_rfl : (True ∧ True ∧ (True ∧ True ∧ True) ∧ (True ∧ (True ∧ True ∧ True ∧ True ∧ True ∧ True) ∧ True) ∧ True ∧ True) = _) ?_; simp only [and_self]) ?_
  refine vc_mp (by kernel_rfl : (∃ (x : Int), ∃ (h' : AHeap), ACall Try.prog (69 : Nat) [Value.pointer (some (Addr.mk l (0 : Nat) (some (0 : Nat)))), Value.int IntKind.i64 view] h (Value.int IntKind.i64 x) h' ∧ ∃ (x_1 : ByteArray), ∃ (h'_1 : AHeap), ACall Try.prog (152 : Nat) [Value.pointer (some (Addr.mk l (0 : Nat) (some (0 : Nat))))] h' (Value.string x_1) h'_1 ∧ ∃ (x_2 : Bool), ∃ (h' : AHeap), ACall Try.prog (66 : Nat) [Value.pointer (some (Addr.mk l (0 : Nat) (some (0 : Nat)))), Value.int IntKind.i64 (3 : Int)] (AHeap.push h'_1 (AObj.mk [[Value.int IntKind.i64 (0 : Int)], [Value.int IntKind.i64 (1 : Int)], [Value.int IntKind.i64 (2 : Int)]] (1 : Nat) true)) (Value.bool x_2) h' ∧ bs x_2 (∃ (x_3 : Bool), ∃ (h'_2 : AHeap), ACall Try.prog (66 : Nat) [Value.pointer (some (Addr.mk l (0 : Nat) (some (0 : Nat)))), Value.int IntKind.i64 (40 : Int)] (AHeap.push h' (AObj.mk [[Value.int IntKind.i64 (0 : Int)], [Value.int IntKind.i64 (2 : Int)], [Value.int IntKind.i64 (3 : Int)]] (1 : Nat) true)) (Value.bool x_3) h'_2 ∧ bs x_3 (∃ (x_4 : Int), ∃ (h'_3 : AHeap), ACall Try.prog (69 : Nat) [Value.pointer (some (Addr.mk l (0 : Nat) (some (0 : Nat)))), Value.int IntKind.i64 (3 : Int)] h'_2 (Value.int IntKind.i64 x_4) h'_3 ∧ bs (decide (x_4 = (0 : Int))) (Q (Value.agg (Array.mk [Value.int IntKind.i64 view, Value.int IntKind.i64 seq, Value.string x_1, Value.slice (some (Addr.mk (AHeap.n h') (0 : Nat) (some (1 : Nat)))) (3 : Nat) (4 : Nat)])) h'_3) (bs (decide (x_4 = (1 : Int))) (Q (Value.agg (Array.mk [Value.int IntKind.i64 x, Value.int IntKind.i64 seq, Value.string x_1, Value.slice (some (Addr.mk (AHeap.n h'_3) (0 : Nat) (some (1 : Nat)))) (3 : Nat) (4 : Nat)])) (AHeap.push h'_3 (AObj.mk [[Value.int IntKind.i64 (1 : Int)], [Value.int IntKind.i64 (1 : Int)], [Value.int IntKind.i64 (2 : Int)]] (1 : Nat) true))) (Q (Value.agg (Array.mk [Value.int IntKind.i64 x, Value.int IntKind.i64 seq, Value.string x_1, Value.slice (some (Addr.mk (AHeap.n h'_3) (0 : Nat) (some (1 : Nat)))) (2 : Nat) (3 : Nat)])) (AHeap.push h'_3 (AObj.mk [[Value.int IntKind.i64 (0 : Int)], [Value.int IntKind.i64 (1 : Int)]] (1 : Nat) true))))) (Q (Value.agg (Array.mk [Value.int IntKind.i64 x, Value.int IntKind.i64 seq, Value.string x_1, Value.slice (some (Addr.mk (AHeap.n h') (0 : Nat) (some (1 : Nat)))) (3 : Nat) (4 : Nat)])) h'_2)) (∃ (x_3 : Bool), ∃ (h'_2 : AHeap), ACall Try.prog (66 : Nat) [Value.pointer (some (Addr.mk l (0 : Nat) (some (0 : Nat)))), Value.int IntKind.i64 (40 : Int)] h' (Value.bool x_3) h'_2 ∧ bs x_3 (∃ (x_4 : Int), ∃ (h' : AHeap), ACall Try.prog (69 : Nat) [Value.pointer (some (Addr.mk l (0 : Nat) (some (0 : Nat)))), Value.int IntKind.i64 (3 : Int)] h'_2 (Value.int IntKind.i64 x_4) h' ∧ bs (decide (x_4 = (0 : Int))) (Q (Value.agg (Array.mk [Value.int IntKind.i64 view, Value.int IntKind.i64 seq, Value.string x_1, Value.slice (some (Addr.mk (AHeap.n h'_1) (0 : Nat) (some (1 : Nat)))) (3 : Nat) (4 : Nat)])) h') (bs (decide (x_4 = (1 : Int))) (Q (Value.agg (Array.mk [Value.int IntKind.i64 x, Value.int IntKind.i64 seq, Value.string x_1, Value.slice (some (Addr.mk (AHeap.n h') (0 : Nat) (some (1 : Nat)))) (3 : Nat) (4 : Nat)])) (AHeap.push h' (AObj.mk [[Value.int IntKind.i64 (1 : Int)], [Value.int IntKind.i64 (1 : Int)], [Value.int IntKind.i64 (2 : Int)]] (1 : Nat) true))) (Q (Value.agg (Array.mk [Value.int IntKind.i64 x, Value.int IntKind.i64 seq, Value.string x_1, Value.slice (some (Addr.mk (AHeap.n h') (0 : Nat) (some (1 : Nat)))) (2 : Nat) (3 : Nat)])) (AHeap.push h' (AObj.mk [[Value.int IntKind.i64 (0 : Int)], [Value.int IntKind.i64 (1 : Int)]] (1 : Nat) true))))) (Q (Value.agg (Array.mk [Value.int IntKind.i64 x, Value.int IntKind.i64 seq, Value.string x_1, Value.slice (some (Addr.mk (AHeap.n h'_1) (0 : Nat) (some (1 : Nat)))) (3 : Nat) (4 : Nat)])) h'_2))) = _) ?_
  have lt := s.lt
  have fin : ∀ (v : Int) (op : ByteArray) (xs : List Int) (n c y : Nat) (g : AHeap), g.get y = some ⟨xs.map (fun t => [Value.int .i64 t]), 1, true⟩ → h.n ≤ y → Dr l h g → xs.length = n → PrfD v seq op xs → Q (.agg #[.int .i64 v, .int .i64 seq, .string op, .slice (some ⟨y, 0, some 1⟩) n c]) g := fun v op xs n c y g hg hy d hn hp =>
    HQ _ _ ⟨d, v, op, xs, _, _, _, [y], rfl, sn_ints hg hn, ⟨by simp, fun z hz => by simp only [List.mem_cons, List.not_mem_nil, or_false] at hz; subst hz; exact ⟨hy, d.wf.lt hg⟩⟩, hp⟩
  have okp : ∀ (v : Int) (op : ByteArray) (xs : List Int), (-9223372036854775808 ≤ v ∧ v ≤ 9223372036854775807) → op.size ≤ 1 → (xs.length ≤ 4 ∧ ∀ x ∈ xs, 0 ≤ x ∧ x ≤ 3) → PrfD v seq op xs := fun v op xs b1 b2 b3 =>
    ⟨⟨b1, bs_, by show op.size ≤ _; omega, ⟨by have := b3.1; show xs.length ≤ _; omega, fun (x : Int) hx => by
      have h9 : (0 : Int) ≤ x ∧ x ≤ 3 := b3.2 x hx
      exact ⟨show (-9223372036854775808 : Int) ≤ x by omega, show x ≤ (9223372036854775807 : Int) by omega⟩⟩⟩, b3.1⟩
  have rest : ∀ (r1 : Int) (op : ByteArray) (xs : List Int) (y : Nat) (g : AHeap), (-9223372036854775808 ≤ r1 ∧ r1 ≤ 9223372036854775807) → op.size ≤ 1 → xs.length = 3 → (∀ x ∈ xs, 0 ≤ x ∧ x ≤ 3) → g.get y = some ⟨xs.map (fun t => [Value.int .i64 t]), 1, true⟩ → h.n ≤ y → Dr l h g →
      ∃ x g2, ACall Try.prog 66 [.pointer (some ⟨l, 0, some 0⟩), .int .i64 40] g (.bool x) g2 ∧ bs x (∃ x4 g3, ACall Try.prog 69 [.pointer (some ⟨l, 0, some 0⟩), .int .i64 3] g2 (.int .i64 x4) g3 ∧
        bs (decide (x4 = 0)) (Q (.agg #[.int .i64 view, .int .i64 seq, .string op, .slice (some ⟨y, 0, some 1⟩) 3 4]) g3) (bs (decide (x4 = 1)) (Q (.agg #[.int .i64 r1, .int .i64 seq, .string op, .slice (some ⟨g3.n, 0, some 1⟩) 3 4]) (g3.push ⟨[[.int .i64 1], [.int .i64 1], [.int .i64 2]], 1, true⟩)) (Q (.agg #[.int .i64 r1, .int .i64 seq, .string op, .slice (some ⟨g3.n, 0, some 1⟩) 2 3]) (g3.push ⟨[[.int .i64 0], [.int .i64 1]], 1, true⟩))))
        (Q (.agg #[.int .i64 r1, .int .i64 seq, .string op, .slice (some ⟨y, 0, some 1⟩) 3 4]) g2) := fun r1 op xs y g b1 b2 b3 b4 q hy d => by
    have hyl : y ∉ [l] := by simp; omega
    obtain ⟨b, g2, A2, d2⟩ := dr_one g l d.src 40 (by omega)
    have q2 := d2.kp.get y _ hyl q
    refine ⟨_, _, A2, bs_of (fun _ => ?_) (fun _ => fin _ _ _ _ _ _ _ q2 hy (d.trans d2) b3 (okp _ _ _ b1 b2 ⟨by omega, b4⟩))⟩
    obtain ⟨r3, g3, A3, _, _, _, d3⟩ := dr_n g2 l d2.src 3 (by omega)
    have q3 := d3.kp.get y _ hyl q2
    have d03 := (d.trans d2).trans d3
    have hn3 : h.n ≤ g3.n := d03.kp.n
    refine ⟨_, _, A3, bs_d (fun _ => fin _ _ _ _ _ _ _ q3 hy d03 b3 (okp _ _ _ bv b2 ⟨by omega, b4⟩)) (fun _ => bs_d (fun _ => ?_) (fun _ => ?_))⟩
    · exact fin _ _ [1, 1, 2] _ _ _ _ AHeap.get_push_eq hn3 (d03.le (.push d03.wf _) (d03.wf.push _)) rfl (okp _ _ _ b1 b2 ⟨by decide, by decide⟩)
    · exact fin _ _ [0, 1] _ _ _ _ AHeap.get_push_eq hn3 (d03.le (.push d03.wf _) (d03.wf.push _)) rfl (okp _ _ _ b1 b2 ⟨by decide, by decide⟩)
  obtain ⟨r1, g1, A1, a1, e1, c1, d1⟩ := dr_n h l s view bv
  have b1 : -9223372036854775808 ≤ r1 ∧ r1 ≤ 9223372036854775807 := by
    by_cases hv : view ≤ 1
    · have := e1 hv; omega
    · have := c1 (by omega); omega
  obtain ⟨op, g2, A2, hop, d2⟩ := dr_op g1 l d1.src
  have d12 := d1.trans d2
  have hn2 : h.n ≤ g2.n := d12.kp.n
  have dp := d12.le (.push d12.wf ⟨[[.int .i64 0], [.int .i64 1], [.int .i64 2]], 1, true⟩) (d12.wf.push _)
  obtain ⟨b3, g3, A3, d3⟩ := dr_one _ l dp.src 3 (by omega)
  have q3 := d3.kp.get g2.n _ (by simp; omega) AHeap.get_push_eq
  have d3' := dp.trans d3
  have hn3 : h.n ≤ g3.n := d3'.kp.n
  refine ⟨_, _, A1, _, _, A2, _, _, A3, bs_of (fun _ => ?_) (fun _ => ?_)⟩
  · exact rest r1 op [0, 2, 3] _ _ b1 hop rfl (by decide) AHeap.get_push_eq hn3 (d3'.le (.push d3'.wf _) (d3'.wf.push _))
  · exact rest r1 op [0, 1, 2] _ _ b1 hop rfl (by decide) q3 hn2 d3'
theorem more_proof {h : AHeap} {l : Nat} {o : OX proofSh.T} (D : DL proofSh h l o) (ok : (Sh.sl proofSh).ok o.xs) (hlen : o.xs.length ≤ 1000) (view seq : Int) (bv : -9223372036854775808 ≤ view ∧ view ≤ 9223372036854775807) (bs_ : -9223372036854775808 ≤ seq ∧ seq ≤ 9223372036854775807) :
    ∃ (v : Int) (op : ByteArray) (a : Option Addr) (n c : Nat) (g1 : AHeap) (lo : Nat) (o' : OX proofSh.T), ACall Try.prog 101 [.pointer (some ⟨l, 0, some 0⟩), .int .i64 view, .int .i64 seq] o.g (.agg #[.int .i64 v, .int .i64 seq, .string op, .slice a n c]) g1 ∧
      (g1.push ⟨[[.int .i64 v, .int .i64 seq, .string op, .slice a n c]], 4, true⟩).app (.slice o.a o.xs.length o.c) [[.int .i64 v, .int .i64 seq, .string op, .slice a n c]] 4 = some (.slice (some ⟨lo, 0, some 4⟩) (o.xs.length + 1) o'.c, o'.g) ∧ o'.a = some ⟨lo, 0, some 4⟩ ∧ DL proofSh h l o' ∧ (Sh.sl proofSh).ok o'.xs ∧ o'.xs.length = o.xs.length + 1 := by
  obtain ⟨_, g1, A, d, v, op, xs, a, n, c, ids, rfl, S, F, P⟩ := dr_proof o.g l D.out.src view seq bv bs_
  obtain ⟨lo, o', e, ea, D', hx, _⟩ := (D.dr d).app (x := ((v, seq, op, xs) : proofSh.T)) (cs := [.int .i64 v, .int .i64 seq, .string op, .slice a n c]) (js := _) (rn_proof.2 ⟨_, ids, rfl, rfl, S⟩) (by simpa using F.widen D.out.kp.n (Nat.le_refl _)) (fun z hz hz2 => by
    have h1 := (D.B.fr.bd z hz).2
    simp only [List.nil_append] at hz2
    have h2 := (F.bd z hz2).1
    omega)
  have el : o'.xs.length = o.xs.length + 1 := by rw [hx]; simp
  refine ⟨v, op, a, n, c, g1, lo, o', A, e, ea, D', ⟨by omega, fun y hy => ?_⟩, el⟩
  have hy' : y ∈ o.xs ++ [((v, seq, op, xs) : proofSh.T)] := by rw [← hx]; exact hy
  rcases List.mem_append.1 hy' with hy | hy
  · exact ok.2 y hy
  · simp only [List.mem_cons, List.not_mem_nil, or_false] at hy
    subst hy; exact P.1
def chgDL (h : AHeap) (l : Nat) (from_ view : Int) : LSpec where
  ι := Nat × OX proofSh.T
  κ := OX proofSh.T
  I := fun i => (1 ≤ i.1 ∧ i.1 ≤ 4) ∧ DL proofSh h l i.2 ∧ (Sh.sl proofSh).ok i.2.xs ∧ i.2.xs.length ≤ i.1
  μ := fun i => 4 - i.1
  head := fun i => ⟨[(0, .pointer (some ⟨l, 0, some 0⟩)), (2, .int .i64 view), (6, .complex .f32 0 0), (7, .complex .f32 1 0), (8, .int .i64 i.1)], [[.int .i64 0, .int .i64 0, .slice none 0 0], [.int .i64 from_, .int .i64 view, .slice i.2.a i.2.xs.length i.2.c]], i.2.g⟩
  post := fun o => ⟨[(0, .pointer (some ⟨l, 0, some 0⟩)), (2, .int .i64 view), (6, .complex .f32 0 0), (7, .complex .f32 1 0)], [[.int .i64 0, .int .i64 0, .slice none 0 0], [.int .i64 from_, .int .i64 view, .slice o.a o.xs.length o.c]], o.g⟩
  R := fun _ o => DL proofSh h l o ∧ (Sh.sl proofSh).ok o.xs ∧ o.xs.length ≤ 4
  ret := fun _ _ _ => False
theorem dr_change (h : AHeap) (l : Nat) (s : Srz h l) (from_ view : Int) (bv : -9223372036854775808 ≤ view ∧ view ≤ 9223372036854775807) :
    ∃ r h', ACall Try.prog 102 [.pointer (some ⟨l, 0, some 0⟩), .int .i64 from_, .int .i64 view] h r h' ∧ ∃ o : OX proofSh.T, r = .agg #[.int .i64 from_, .int .i64 view, .slice o.a o.xs.length o.c] ∧ h' = o.g ∧ DL proofSh h l o ∧ (Sh.sl proofSh).ok o.xs ∧ o.xs.length ≤ 5 := by
  refine acall_q fun Q HQ => ?_
  refine acall_vc (fun _ => false) (fun r => match r with | 6 => [(0, 0, []), (2, 0, []), (3, 0, []), (4, 0, []), (1, 1, []), (5, 3, [1]), (6, 3, [1]), (7, 3, []), (8, 0, []), (9, 3, [])] | 8 => [(0, 0, []), (2, 0, []), (3, 0, []), (1, 1, []), (4, 3, [1]), (5, 3, [1]), (6, 3, []), (7, 0, []), (8, 3, [])] | _ => []) (fun _ => chgDL h l from_ view) mixed Try.func102 rfl rfl rfl (Nat.le_of_ble_eq_true rfl) ?_ ?_
  · refine vc_mp (by kernel_rfl : (True ∧ True ∧ (True ∧ (∀ (i : Nat × OX (Sh.T proofSh)), ((1 : Nat) ≤ Prod.fst i ∧ Prod.fst i ≤ (4 : Nat)) ∧ DL proofSh h l (Prod.snd i) ∧ Sh.ok (Sh.sl proofSh) (OX.xs (Prod.snd i)) ∧ List.length (OX.xs (Prod.snd i)) ≤ Prod.fst i → bs (decide ((↑(Prod.fst i) : Int) ≤ (3 : Int))) (∃ (x : Bool), ∃ (h' : AHeap), ACall Try.prog (66 : Nat) [Value.pointer (some (Addr.mk l (0 : Nat) (some (0 : Nat)))), Value.int IntKind.i64 (2 : Int)] (OX.g (Prod.snd i)) (Value.bool x) h' ∧ bs x (∃ (x : Int), ∃ (x_1 : Int), ∃ (x_2 : ByteArray), ∃ (a : Option Addr), ∃ (n : Nat), ∃ (c : Nat), ∃ (h'_1 : AHeap), ACall Try.prog (101 : Nat) [Value.pointer (some (Addr.mk l (0 : Nat) (some (0 : Nat)))), Value.int IntKind.i64 view, Value.int IntKind.i64 (↑(Prod.fst i) : Int)] h' (Value.agg (Array.mk [Value.int IntKind.i64 x, Value.int IntKind.i64 x_1, Value.string x_2, Value.slice a n c])) h'_1 ∧ Value.slice (OX.a (Prod.snd i)) (List.length (OX.xs (Prod.snd i))) (OX.c (Prod.snd i)) = Value.slice (OX.a (Prod.snd i)) (List.length (OX.xs (Prod.snd i))) (OX.c (Prod.snd i)) ∧ Value.slice (OX.a (Prod.snd i)) (List.length (OX.xs (Prod.snd i))) (OX.c (Prod.snd i)) = Value.slice (OX.a (Prod.snd i)) (List.length (OX.xs (Prod.snd i))) (OX.c (Prod.snd i)) ∧ ∃ (xs : List (List Value)), rowsV (AHeap.push h'_1 (AObj.mk [[Value.int IntKind.i64 x, Value.int IntKind.i64 x_1, Value.string x_2, Value.slice a n c]] (4 : Nat) true)) (Value.slice (some (Addr.mk (AHeap.n h'_1) (0 : Nat) (some (4 : Nat)))) (1 : Nat) (2 : Nat)) = some xs ∧ (List.all xs fun (row : List Value) => decide (List.length row = (4 : Nat)) && List.all row fun (v : Value) => match v with | Value.agg cells => false | Value.tuple cells => false | Value.complex k re im => false | Value.chan r => false | x => true) = true ∧ (List.length (OX.xs (Prod.snd i)) + List.length xs) * (56 : Nat) ≤ (140737488355328 : Nat) ∧ ∃ (a_1 : Option Addr), ∃ (n_1 : Nat), ∃ (c_1 : Nat), ∃ (h' : AHeap), AHeap.app (AHeap.push h'_1 (AObj.mk [[Value.int IntKind.i64 x, Value.int IntKind.i64 x_1, Value.string x_2, Value.slice a n c]] (4 : Nat) true)) (Value.slice (OX.a (Prod.snd i)) (List.length (OX.xs (Prod.snd i))) (OX.c (Prod.snd i))) xs (4 : Nat) = some (Value.slice a_1 n_1 c_1, h') ∧ ∃ (j : Nat × OX (Sh.T proofSh)), Value.pointer (some (Addr.mk l (0 : Nat) (some (0 : Nat)))) = Value.pointer (some (Addr.mk l (0 : Nat) (some (0 : Nat)))) ∧ Value.int IntKind.i64 view = Value.int IntKind.i64 view ∧ Value.complex FloatKind.f32 (0 : Nat) (0 : Nat) = Value.complex FloatKind.f32 (0 : Nat) (0 : Nat) ∧ Value.complex FloatKind.f32 (1 : Nat) (0 : Nat) = Value.complex FloatKind.f32 (1 : Nat) (0 : Nat) ∧ Value.int IntKind.i64 (IntKind.wrap IntKind.i64 ((↑(Prod.fst i) : Int) + (1 : Int))) = Value.int IntKind.i64 (↑(Prod.fst j) : Int) ∧ [Value.int IntKind.i64 (0 : Int), Value.int IntKind.i64 (0 : Int), Value.slice none (0 : Nat) (0 : Nat)] = [Value.int IntKind.i64 (0 : Int), Value.int IntKind.i64 (0 : Int), Value.slice none (0 : Nat) (0 : Nat)] ∧ [Value.int IntKind.i64 from_, Value.int IntKind.i64 view, Value.slice (OX.a (Prod.snd j)) (List.length (OX.xs (Prod.snd j))) (OX.c (Prod.snd j))] = [Value.int IntKind.i64 from_, Value.int IntKind.i64 view, Value.slice a_1 n_1 c_1] ∧ OX.g (Prod.snd j) = h' ∧ (((1 : Nat) ≤ Prod.fst j ∧ Prod.fst j ≤ (4 : Nat)) ∧ DL proofSh h l (Prod.snd j) ∧ Sh.ok (Sh.sl proofSh) (OX.xs (Prod.snd j)) ∧ List.length (OX.xs (Prod.snd j)) ≤ Prod.fst j) ∧ (4 : Nat) - Prod.fst j < (4 : Nat) - Prod.fst i ∧ (∀ (k : OX (Sh.T proofSh)), DL proofSh h l k ∧ Sh.ok (Sh.sl proofSh) (OX.xs k) ∧ List.length (OX.xs k) ≤ (4 : Nat) → DL proofSh h l k ∧ Sh.ok (Sh.sl proofSh) (OX.xs k) ∧ List.length (OX.xs k) ≤ (4 : Nat)) ∧ ∀ (v : Value) (h : AHeap), False → False) (∃ (j : Nat × OX (Sh.T proofSh)), Value.pointer (some (Addr.mk l (0 : Nat) (some (0 : Nat)))) = Value.pointer (some (Addr.mk l (0 : Nat) (some (0 : Nat)))) ∧ Value.int IntKind.i64 view = Value.int IntKind.i64 view ∧ Value.complex FloatKind.f32 (0 : Nat) (0 : Nat) = Value.complex FloatKind.f32 (0 : Nat) (0 : Nat) ∧ Value.complex FloatKind.f32 (1 : Nat) (0 : Nat) = Value.complex FloatKind.f32 (1 : Nat) (0 : Nat) ∧ Value.int IntKind.i64 (IntKind.wrap IntKind.i64 ((↑(Prod.fst i) : Int) + (1 : Int))) = Value.int IntKind.i64 (↑(Prod.fst j) : Int) ∧ [Value.int IntKind.i64 (0 : Int), Value.int IntKind.i64 (0 : Int), Value.slice none (0 : Nat) (0 : Nat)] = [Value.int IntKind.i64 (0 : Int), Value.int IntKind.i64 (0 : Int), Value.slice none (0 : Nat) (0 : Nat)] ∧ [Value.int IntKind.i64 from_, Value.int IntKind.i64 view, Value.slice (OX.a (Prod.snd j)) (List.length (OX.xs (Prod.snd j))) (OX.c (Prod.snd j))] = [Value.int IntKind.i64 from_, Value.int IntKind.i64 view, Value.slice (OX.a (Prod.snd i)) (List.length (OX.xs (Prod.snd i))) (OX.c (Prod.snd i))] ∧ OX.g (Prod.snd j) = h' ∧ (((1 : Nat) ≤ Prod.fst j ∧ Prod.fst j ≤ (4 : Nat)) ∧ DL proofSh h l (Prod.snd j) ∧ Sh.ok (Sh.sl proofSh) (OX.xs (Prod.snd j)) ∧ List.length (OX.xs (Prod.snd j)) ≤ Prod.fst j) ∧ (4 : Nat) - Prod.fst j < (4 : Nat) - Prod.fst i ∧ (∀ (k : OX (Sh.T proofSh)), DL proofSh h l k ∧ Sh.ok (Sh.sl proofSh) (OX.xs k) ∧ List.length (OX.xs k) ≤ (4 : Nat) → DL proofSh h l k ∧ Sh.ok (Sh.sl proofSh) (OX.xs k) ∧ List.length (OX.xs k) ≤ (4 : Nat)) ∧ ∀ (v : Value) (h : AHeap), False → False)) (∃ (j : OX (Sh.T proofSh)), Value.pointer (some (Addr.mk l (0 : Nat) (some (0 : Nat)))) = Value.pointer (some (Addr.mk l (0 : Nat) (some (0 : Nat)))) ∧ Value.int IntKind.i64 view = Value.int IntKind.i64 view ∧ Value.complex FloatKind.f32 (0 : Nat) (0 : Nat) = Value.complex FloatKind.f32 (0 : Nat) (0 : Nat) ∧ Value.complex FloatKind.f32 (1 : Nat) (0 : Nat) = Value.complex FloatKind.f32 (1 : Nat) (0 : Nat) ∧ [Value.int IntKind.i64 (0 : Int), Value.int IntKind.i64 (0 : Int), Value.slice none (0 : Nat) (0 : Nat)] = [Value.int IntKind.i64 (0 : Int), Value.int IntKind.i64 (0 : Int), Value.slice none (0 : Nat) (0 : Nat)] ∧ [Value.int IntKind.i64 from_, Value.int IntKind.i64 view, Value.slice (OX.a j) (List.length (OX.xs j)) (OX.c j)] = [Value.int IntKind.i64 from_, Value.int IntKind.i64 view, Value.slice (OX.a (Prod.snd i)) (List.length (OX.xs (Prod.snd i))) (OX.c (Prod.snd i))] ∧ OX.g j = OX.g (Prod.snd i) ∧ DL proofSh h l j ∧ Sh.ok (Sh.sl proofSh) (OX.xs j) ∧ List.length (OX.xs j) ≤ (4 : Nat))) ∧ (True ∧ True ∧ True) ∧ (True ∧ True ∧ True) ∧ True) ∧ (True ∧ True ∧ True) ∧ True ∧ True) = _) ?_
    simp only [true_and, and_true]
    rintro ⟨k, o⟩ ⟨⟨hk, hk4⟩, D, ok, hlen⟩
    dsimp only at *
    refine bs_d (fun hlt => ?_) (fun hge => ⟨o, rfl, rfl, D, ok, by omega⟩)
    obtain ⟨b, g1, A1, d1⟩ := dr_one o.g l D.out.src 2 (by omega)
    have D1 := D.dr d1
    refine ⟨_, _, A1, bs_of (fun _ => ?_) (fun _ => ⟨(k + 1, ⟨o.a, o.c, o.xs, o.ids, g1⟩), by rw [wrap_i64 (by omega)]; rfl, rfl, rfl, ⟨by dsimp only; omega, D1, ok, by dsimp only; omega⟩, by dsimp only; omega, fun _ h => h, fun _ _ h => h⟩)⟩
    obtain ⟨v, op, a, n, c, g2, lo, o', A2, e, ea, D', ok', el⟩ := more_proof D1 ok (by dsimp only; omega) view k bv (by omega)
    dsimp only at e el
    exact ⟨_, _, _, _, _, _, _, A2, _, rowsV_lit2 rfl, rfl, by simp only [List.length_cons, List.length_nil]; omega, _, _, _, _, e, (k + 1, o'), by rw [wrap_i64 (by omega)]; rfl, by dsimp only; rw [ea, el], rfl, ⟨by dsimp only; omega, D', ok', by dsimp only; omega⟩, by dsimp only; omega, fun _ h => h, fun _ _ h => h⟩
  refine vc_mp (by kernel_rfl : (∃ (i : Nat × OX (Sh.T proofSh)), Value.pointer (some (Addr.mk l (0 : Nat) (some (0 : Nat)))) = Value.pointer (some (Addr.mk l (0 : Nat) (some (0 : Nat)))) ∧ Value.int IntKind.i64 view = Value.int IntKind.i64 view ∧ Value.complex FloatKind.f32 (0 : Nat) (0 : Nat) = Value.complex FloatKind.f32 (0 : Nat) (0 : Nat) ∧ Value.complex FloatKind.f32 (1 : Nat) (0 : Nat) = Value.complex FloatKind.f32 (1 : Nat) (0 : Nat) ∧ Value.int IntKind.i64 (1 : Int) = Value.int IntKind.i64 (↑(Prod.fst i) : Int) ∧ [Value.int IntKind.i64 (0 : Int), Value.int IntKind.i64 (0 : Int), Value.slice none (0 : Nat) (0 : Nat)] = [Value.int IntKind.i64 (Int.ofNat (0 : Nat)), Value.int IntKind.i64 (Int.ofNat (0 : Nat)), Value.slice none (0 : Nat) (0 : Nat)] ∧ [Value.int IntKind.i64 from_, Value.int IntKind.i64 view, Value.slice (OX.a (Prod.snd i)) (List.length (OX.xs (Prod.snd i))) (OX.c (Prod.snd i))] = [Value.int IntKind.i64 from_, Value.int IntKind.i64 view, Value.slice none (0 : Nat) (0 : Nat)] ∧ OX.g (Prod.snd i) = h ∧ (((1 : Nat) ≤ Prod.fst i ∧ Prod.fst i ≤ (4 : Nat)) ∧ DL proofSh h l (Prod.snd i) ∧ Sh.ok (Sh.sl proofSh) (OX.xs (Prod.snd i)) ∧ List.length (OX.xs (Prod.snd i)) ≤ Prod.fst i) ∧ (∀ (j : OX (Sh.T proofSh)), DL proofSh h l j ∧ Sh.ok (Sh.sl proofSh) (OX.xs j) ∧ List.length (OX.xs j) ≤ (4 : Nat) → ∃ (x : Bool), ∃ (h' : AHeap), ACall Try.prog (66 : Nat) [Value.pointer (some (Addr.mk l (0 : Nat) (some (0 : Nat)))), Value.int IntKind.i64 (40 : Int)] (OX.g j) (Value.bool x) h' ∧ bs x (∃ (x : Int), ∃ (x_1 : Int), ∃ (x_2 : ByteArray), ∃ (a : Option Addr), ∃ (n : Nat), ∃ (c : Nat), ∃ (h'_1 : AHeap), ACall Try.prog (101 : Nat) [Value.pointer (some (Addr.mk l (0 : Nat) (some (0 : Nat)))), Value.int IntKind.i64 view, Value.int IntKind.i64 (1 : Int)] h' (Value.agg (Array.mk [Value.int IntKind.i64 x, Value.int IntKind.i64 x_1, Value.string x_2, Value.slice a n c])) h'_1 ∧ Value.slice (OX.a j) (List.length (OX.xs j)) (OX.c j) = Value.slice (OX.a j) (List.length (OX.xs j)) (OX.c j) ∧ Value.slice (OX.a j) (List.length (OX.xs j)) (OX.c j) = Value.slice (OX.a j) (List.length (OX.xs j)) (OX.c j) ∧ ∃ (xs : List (List Value)), rowsV (AHeap.push h'_1 (AObj.mk [[Value.int IntKind.i64 x, Value.int IntKind.i64 x_1, Value.string x_2, Value.slice a n c]] (4 : Nat) true)) (Value.slice (some (Addr.mk (AHeap.n h'_1) (0 : Nat) (some (4 : Nat)))) (1 : Nat) (2 : Nat)) = some xs ∧ (List.all xs fun (row : List Value) => decide (List.length row = (4 : Nat)) && List.all row fun (v : Value) => match v with | Value.agg cells => false | Value.tuple cells => false | Value.complex k re im => false | Value.chan r => false | x => true) = true ∧ (List.length (OX.xs j) + List.length xs) * (56 : Nat) ≤ (140737488355328 : Nat) ∧ ∃ (a_1 : Option Addr), ∃ (n_1 : Nat), ∃ (c_1 : Nat), ∃ (h' : AHeap), AHeap.app (AHeap.push h'_1 (AObj.mk [[Value.int IntKind.i64 x, Value.int IntKind.i64 x_1, Value.string x_2, Value.slice a n c]] (4 : Nat) true)) (Value.slice (OX.a j) (List.length (OX.xs j)) (OX.c j)) xs (4 : Nat) = some (Value.slice a_1 n_1 c_1, h') ∧ Q (Value.agg (Array.mk [Value.int IntKind.i64 from_, Value.int IntKind.i64 view, Value.slice a_1 n_1 c_1])) h') (Q (Value.agg (Array.mk [Value.int IntKind.i64 from_, Value.int IntKind.i64 view, Value.slice (OX.a j) (List.length (OX.xs j)) (OX.c j)])) h')) ∧ ∀ (v : Value) (h : AHeap), False → Q v h) = _) ?_
  refine ⟨(1, ⟨none, 0, [], [], h⟩), rfl, rfl, rfl, rfl, rfl, rfl, rfl, rfl, ⟨by dsimp only; omega, DL.nil s, ⟨Nat.zero_le _, fun x hx => by cases hx⟩, Nat.zero_le _⟩, fun o ⟨D, ok, hlen⟩ => ?_, fun _ _ h => h.elim⟩
  obtain ⟨b, g1, A1, d1⟩ := dr_one o.g l D.out.src 40 (by omega)
  have D1 := D.dr d1
  refine ⟨_, _, A1, bs_of (fun _ => ?_) (fun _ => HQ _ _ ⟨⟨o.a, o.c, o.xs, o.ids, g1⟩, rfl, rfl, D1, ok, by dsimp only; omega⟩)⟩
  obtain ⟨v, op, a, n, c, g2, lo, o', A2, e, ea, D', ok', el⟩ := more_proof D1 ok (by dsimp only; omega) view 1 bv (by omega)
  dsimp only at e el
  exact ⟨_, _, _, _, _, _, _, A2, rfl, rfl, _, rowsV_lit2 rfl, rfl, by simp only [List.length_cons, List.length_nil]; omega, _, _, _, _, e, HQ _ _ ⟨o', by rw [ea, el], rfl, D', ok', by omega⟩⟩
end Go.Proofs.Ytanienlcebkijaa
end
