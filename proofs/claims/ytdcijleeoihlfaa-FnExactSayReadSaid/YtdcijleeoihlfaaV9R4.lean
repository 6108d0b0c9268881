/- Contracts: topics read from bytes, in the reference. -/
import Derived.Test.YtdcijleeoihlfaaV9R3
import Derived.Test.YtdcijleeoihlfaaV9N2
namespace Go.Dat
open Go.Abs
structure RX (α : Type) where
  N : Nat
  a1 : Nat
  b1 : Bool
  n : Nat
  A : Option Addr
  m : Nat
  c : Nat
  xs : List α
  ids : List Nat
  a : Nat
  b : Bool
  g : AHeap
structure LpI (s : Sh) (p : Nat → Option (s.T × Nat)) (t : ByteArray) (l n0 : Nat) (x : RX s.T) : Prop where
  rep : RepI p t x.N x.a1 x.b1 x.n x.xs x.a x.b
  sb : SoB s (E0 n0) x.g x.A x.m x.c x.xs x.ids
  rd : x.g.get l = some (rdO t x.a x.b)
  ok : ∀ y ∈ x.xs, s.ok y
  small : x.N ≤ 20
theorem LpI.start {s : Sh} {p : Nat → Option (s.T × Nat)} {t : ByteArray} {l n0 : Nat} {g : AHeap} {N a : Nat} {b : Bool} (hw : g.wf) (hn : n0 ≤ g.n) (hN : N ≤ 20) (ha : a ≤ t.size) (hg : g.get l = some (rdO t a b)) : LpI s p t l n0 ⟨N, a, b, N, none, 0, 0, [], [], a, b, g⟩ :=
  ⟨.start ha, .new hw hn, hg, fun y hy => absurd hy List.not_mem_nil, hN⟩
theorem LpI.lnot {s : Sh} {p : Nat → Option (s.T × Nat)} {t : ByteArray} {l n0 : Nat} {x : RX s.T} (I : LpI s p t l n0 x) (hl : l < n0) : l ∉ x.ids := fun e => by have h1 : n0 ≤ l := (I.sb.fr.bd l e).1; omega
theorem LpI.okl {s : Sh} {p : Nat → Option (s.T × Nat)} {t : ByteArray} {l n0 : Nat} {x : RX s.T} (I : LpI s p t l n0 x) : (Sh.sl s).ok x.xs := ⟨by have h1 := I.rep.len; have h2 := I.small; show x.xs.length ≤ _; omega, I.ok⟩
theorem LpI.step {s : Sh} {p : Nat → Option (s.T × Nat)} {t : ByteArray} {l n0 : Nat} {N a1 : Nat} {b1 : Bool} {n : Nat} {A : Option Addr} {m c : Nat} {xs : List s.T} {ids : List Nat} {a : Nat} {g g' : AHeap} (I : LpI s p t l n0 ⟨N, a1, b1, n + 1, A, m, c, xs, ids, a, false, g⟩) (hl : l < n0)
    {y : s.T} {cs : List Value} {js : List Nat} {a' : Nat} {b' : Bool} (k : Kp [l] g g') (w : g'.wf) (hg : g'.get l = some (rdO t a' b')) (R : Rd (p a) t false y a' b') (rn : s.rn g' y cs js) (fj : Fresh g.n g'.n js) (oky : s.ok y) :
    ∃ l' g2 ids', g'.app (.slice A m c) [cs] s.cells = some (.slice (some ⟨l', 0, some s.cells⟩) (m + 1) 0, g2) ∧ LpI s p t l n0 ⟨N, a1, b1, n, some ⟨l', 0, some s.cells⟩, m + 1, 0, xs ++ [y], ids', a', b', g2⟩ ∧ Kp (l :: ids) g g2 ∧ (∀ z ∈ ids', z = g'.n ∨ z ∈ ids ∨ z ∈ js) ∧ Kp ids g' g2 := by
  have hli := I.lnot hl
  have B : SoB s (E0 n0) g' A m c xs ids := I.sb.kp k w (fun z hz e => hli (by simp at e; exact e ▸ hz))
  have hng : n0 ≤ g.n := I.sb.le.n
  have hlg : ∀ z ∈ ids, z < g.n := fun z hz => (I.sb.fr.bd z hz).2
  obtain ⟨l', g2, ids', e, B2, k2, w2, hm⟩ := B.app' rn (fj.widen hng (Nat.le_refl _)) (fun z hz hj => by have h1 := hlg z hz; have h2 := (fj.bd z hj).1; omega)
  exact ⟨l', g2, ids', e, ⟨I.rep.step R, B2, k2.get l _ hli hg, fun z hz => by
    rcases List.mem_append.1 hz with hz | hz
    · exact I.ok z hz
    · rw [List.mem_singleton.1 hz]; exact oky, I.small⟩, (k.widen (by simp)).trans (k2.widen (fun z hz => List.mem_cons_of_mem _ hz)), hm, k2⟩
theorem LpI.fin {s : Sh} {p : Nat → Option (s.T × Nat)} {t : ByteArray} {l n0 : Nat} {x : RX s.T} (I : LpI s p t l n0 x) (h : x.n = 0 ∨ x.b = true) : Rd (pRep p x.N x.a1 []) t x.b1 x.xs x.a x.b := I.rep.finish h
theorem rowsV_lit {g : AHeap} {rows : List (List Value)} {e n c : Nat} (hn : rows.length = n) : rowsV (g.push ⟨rows, e, true⟩) (.slice (some ⟨g.n, 0, some e⟩) n c) = some rows := by
  unfold rowsV
  dsimp only
  subst hn
  rw [get_rowsOf AHeap.get_push_eq (by omega), List.drop_zero, List.take_of_length_le (Nat.le_refl _)]
theorem LpI.kp {s : Sh} {p : Nat → Option (s.T × Nat)} {t : ByteArray} {l n0 : Nat} {x : RX s.T} {h g2 : AHeap} (I : LpI s p t l n0 x) (hw : h.wf) (hn : h.n ≤ n0) (k : Kp [l] h x.g) (k2 : Kp (l :: x.ids) x.g g2) : Kp [l] h g2 :=
  k.drop hw k2 (fun z hz => by
    rcases List.mem_cons.1 hz with rfl | hz
    · exact .inl (by simp)
    · have h1 : n0 ≤ z := (I.sb.fr.bd z hz).1
      exact .inr (by omega))
theorem LpI.bnd {s : Sh} {p : Nat → Option (s.T × Nat)} {t : ByteArray} {l n0 : Nat} {x : RX s.T} (I : LpI s p t l n0 x) : x.m ≤ 20 := by
  have h1 := I.rep.len; have h2 := I.small; have h3 := I.sb.len; omega
end Go.Dat
namespace Go.Proofs.Ytdcijleeoihlfaa
open Go.Abs Go.Dat
set_option maxRecDepth 100000
set_option maxHeartbeats 8000000
end Go.Proofs.Ytdcijleeoihlfaa
