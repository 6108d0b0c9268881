/- N1, N2, R4, T3, T4, S2. -/
import Derived.Test.YtanienlcebkijaaV16N0
import Derived.Test.YtanienlcebkijaaV16Z2
import Derived.Test.YtanienlcebkijaaV16T2
import Derived.Test.YtanienlcebkijaaV16S1
section
namespace Go.Dat
open Go.Abs
theorem rn_proof {h : AHeap} {x : proofSh.T} {cs : List Value} {ids : List Nat} : proofSh.rn h x cs ids ↔ ∃ v1 j1, cs = [.int .i64 x.1, .int .i64 x.2.1, .string x.2.2.1, v1] ∧ ids = [] ++ ([] ++ ([] ++ (j1))) ∧ Sn h Sh.int x.2.2.2 v1 j1 := by
  constructor
  · rintro ⟨_, _, _, _, rfl, rfl, ⟨rfl, rfl⟩, _, _, _, _, rfl, rfl, ⟨rfl, rfl⟩, _, _, _, _, rfl, rfl, ⟨rfl, rfl⟩, q1⟩
    obtain ⟨v1, rfl, k1⟩ := rn_sl.1 q1
    exact ⟨v1, _, rfl, rfl, k1⟩
  · rintro ⟨v1, j1, rfl, rfl, k1⟩
    exact ⟨[_], _, [], _, rfl, rfl, ⟨rfl, rfl⟩, [_], _, [], _, rfl, rfl, ⟨rfl, rfl⟩, [_], _, [], _, rfl, rfl, ⟨rfl, rfl⟩, rn_sl.2 ⟨_, rfl, k1⟩⟩
theorem rn_change {h : AHeap} {x : changeSh.T} {cs : List Value} {ids : List Nat} : changeSh.rn h x cs ids ↔ ∃ v1 j1, cs = [.int .i64 x.1, .int .i64 x.2.1, v1] ∧ ids = [] ++ ([] ++ (j1)) ∧ Sn h proofSh x.2.2 v1 j1 := by
  constructor
  · rintro ⟨_, _, _, _, rfl, rfl, ⟨rfl, rfl⟩, _, _, _, _, rfl, rfl, ⟨rfl, rfl⟩, q1⟩
    obtain ⟨v1, rfl, k1⟩ := rn_sl.1 q1
    exact ⟨v1, _, rfl, rfl, k1⟩
  · rintro ⟨v1, j1, rfl, rfl, k1⟩
    exact ⟨[_], _, [], _, rfl, rfl, ⟨rfl, rfl⟩, [_], _, [], _, rfl, rfl, ⟨rfl, rfl⟩, rn_sl.2 ⟨_, rfl, k1⟩⟩
end Go.Dat
namespace Go.Proofs.Ytanienlcebkijaa
open Go.Abs Go.Dat
set_option maxRecDepth 100000
set_option maxHeartbeats 4000000
end Go.Proofs.Ytanienlcebkijaa
end
section
namespace Go.Dat
open Go.Abs
end Go.Dat
end
section
namespace Go.Dat
open Go.Abs
structure RX (α : Type) where
  N : Nat
  a1 : Nat
  b1 : Bool
  n : Nat
  A : Option Addr
  m : Nat
  c : Nat
  xs : List α
  ids : List Nat
  a : Nat
  b : Bool
  g : AHeap
structure LpI (s : Sh) (p : Nat → Option (s.T × Nat)) (t : ByteArray) (l n0 : Nat) (x : RX s.T) : Prop where
  rep : RepI p t x.N x.a1 x.b1 x.n x.xs x.a x.b
  sb : SoB s (E0 n0) x.g x.A x.m x.c x.xs x.ids
  rd : x.g.get l = some (rdO t x.a x.b)
  ok : ∀ y ∈ x.xs, s.ok y
  small : x.N ≤ 20
theorem LpI.start {s : Sh} {p : Nat → Option (s.T × Nat)} {t : ByteArray} {l n0 : Nat} {g : AHeap} {N a : Nat} {b : Bool} (hw : g.wf) (hn : n0 ≤ g.n) (hN : N ≤ 20) (ha : a ≤ t.size) (hg : g.get l = some (rdO t a b)) : LpI s p t l n0 ⟨N, a, b, N, none, 0, 0, [], [], a, b, g⟩ :=
  ⟨.start ha, .new hw hn, hg, fun y hy => absurd hy List.not_mem_nil, hN⟩
theorem LpI.lnot {s : Sh} {p : Nat → Option (s.T × Nat)} {t : ByteArray} {l n0 : Nat} {x : RX s.T} (I : LpI s p t l n0 x) (hl : l < n0) : l ∉ x.ids := fun e => by have h1 : n0 ≤ l := (I.sb.fr.bd l e).1; omega
theorem LpI.okl {s : Sh} {p : Nat → Option (s.T × Nat)} {t : ByteArray} {l n0 : Nat} {x : RX s.T} (I : LpI s p t l n0 x) : (Sh.sl s).ok x.xs := ⟨by have h1 := I.rep.len; have h2 := I.small; show x.xs.length ≤ _; omega, I.ok⟩
theorem LpI.step {s : Sh} {p : Nat → Option (s.T × Nat)} {t : ByteArray} {l n0 : Nat} {N a1 : Nat} {b1 : Bool} {n : Nat} {A : Option Addr} {m c : Nat} {xs : List s.T} {ids : List Nat} {a : Nat} {g g' : AHeap} (I : LpI s p t l n0 ⟨N, a1, b1, n + 1, A, m, c, xs, ids, a, false, g⟩) (hl : l < n0)
    {y : s.T} {cs : List Value} {js : List Nat} {a' : Nat} {b' : Bool} (k : Kp [l] g g') (w : g'.wf) (hg : g'.get l = some (rdO t a' b')) (R : Rd (p a) t false y a' b') (rn : s.rn g' y cs js) (fj : Fresh g.n g'.n js) (oky : s.ok y) :
    ∃ l' g2 ids', g'.app (.slice A m c) [cs] s.cells = some (.slice (some ⟨l', 0, some s.cells⟩) (m + 1) 0, g2) ∧ LpI s p t l n0 ⟨N, a1, b1, n, some ⟨l', 0, some s.cells⟩, m + 1, 0, xs ++ [y], ids', a', b', g2⟩ ∧ Kp (l :: ids) g g2 ∧ (∀ z ∈ ids', z = g'.n ∨ z ∈ ids ∨ z ∈ js) ∧ Kp ids g' g2 := by
  have hli := I.lnot hl
  have B : SoB s (E0 n0) g' A m c xs ids := I.sb.kp k w (fun z hz e => hli (by simp at e; exact e ▸ hz))
  have hng : n0 ≤ g.n := I.sb.le.n
  have hlg : ∀ z ∈ ids, z < g.n := fun z hz => (I.sb.fr.bd z hz).2
  obtain ⟨l', g2, ids', e, B2, k2, w2, hm⟩ := B.app' rn (fj.widen hng (Nat.le_refl _)) (fun z hz hj => by have h1 := hlg z hz; have h2 := (fj.bd z hj).1; omega)
  exact ⟨l', g2, ids', e, ⟨I.rep.step R, B2, k2.get l _ hli hg, fun z hz => by
    rcases List.mem_append.1 hz with hz | hz
    · exact I.ok z hz
    · rw [List.mem_singleton.1 hz]; exact oky, I.small⟩, (k.widen (by simp)).trans (k2.widen (fun z hz => List.mem_cons_of_mem _ hz)), hm, k2⟩
theorem LpI.fin {s : Sh} {p : Nat → Option (s.T × Nat)} {t : ByteArray} {l n0 : Nat} {x : RX s.T} (I : LpI s p t l n0 x) (h : x.n = 0 ∨ x.b = true) : Rd (pRep p x.N x.a1 []) t x.b1 x.xs x.a x.b := I.rep.finish h
theorem rowsV_lit {g : AHeap} {rows : List (List Value)} {e n c : Nat} (hn : rows.length = n) : rowsV (g.push ⟨rows, e, true⟩) (.slice (some ⟨g.n, 0, some e⟩) n c) = some rows := by
  unfold rowsV
  dsimp only
  subst hn
  rw [get_rowsOf AHeap.get_push_eq (by omega), List.drop_zero, List.take_of_length_le (Nat.le_refl _)]
theorem LpI.kp {s : Sh} {p : Nat → Option (s.T × Nat)} {t : ByteArray} {l n0 : Nat} {x : RX s.T} {h g2 : AHeap} (I : LpI s p t l n0 x) (hw : h.wf) (hn : h.n ≤ n0) (k : Kp [l] h x.g) (k2 : Kp (l :: x.ids) x.g g2) : Kp [l] h g2 :=
  k.drop hw k2 (fun z hz => by
    rcases List.mem_cons.1 hz with rfl | hz
    · exact .inl (by simp)
    · have h1 : n0 ≤ z := (I.sb.fr.bd z hz).1
      exact .inr (by omega))
theorem LpI.bnd {s : Sh} {p : Nat → Option (s.T × Nat)} {t : ByteArray} {l n0 : Nat} {x : RX s.T} (I : LpI s p t l n0 x) : x.m ≤ 20 := by
  have h1 := I.rep.len; have h2 := I.small; have h3 := I.sb.len; omega
end Go.Dat
namespace Go.Proofs.Ytanienlcebkijaa
open Go.Abs Go.Dat
set_option maxRecDepth 100000
set_option maxHeartbeats 8000000
end Go.Proofs.Ytanienlcebkijaa
end
section
namespace Go.Dat
open Go.Abs
def prfPre (p : proofSh.T) (j : Nat) : List ByteArray := [nb p.1, nb p.2.1, vt p.2.2.1, nb p.2.2.2.length] ++ ((show List Int from p.2.2.2).take j).map nb
def prfB (p : proofSh.T) : ByteArray := cat (prfPre p p.2.2.2.length)
def chgPre (c : changeSh.T) (j : Nat) : List ByteArray := [nb c.1, nb c.2.1, nb c.2.2.length] ++ ((show List proofSh.T from c.2.2).take j).map prfB
def chgB (c : changeSh.T) : ByteArray := cat (chgPre c c.2.2.length)
def sayPre (k f v q : Int) (op : ByteArray) (cs : List changeSh.T) (j : Nat) : List ByteArray := [nb k, nb f, nb v, nb q, vt op, nb cs.length] ++ (cs.take j).map chgB
def sayB (k f v q : Int) (op : ByteArray) (cs : List changeSh.T) : ByteArray := cat (sayPre k f v q op cs cs.length)
def pPrf (t : ByteArray) (a : Nat) : Option (proofSh.T × Nat) := (pNum t a).bind fun z1 => (pNum t z1.2).bind fun z2 => (pWord t z2.2).bind fun z3 => (pMany 4 t z3.2).bind fun z4 => (pRep (pNum t) z4.1 z4.2 []).bind fun z5 => some ((z1.1, z2.1, z3.1, z5.1), z5.2)
def pChg (t : ByteArray) (a : Nat) : Option (changeSh.T × Nat) := (pNum t a).bind fun z1 => (pNum t z1.2).bind fun z2 => (pMany 6 t z2.2).bind fun z3 => (pRep (pPrf t) z3.1 z3.2 []).bind fun z4 => some ((z1.1, z2.1, z4.1), z4.2)
def pSay (t : ByteArray) (a : Nat) : Option (saySh.T × Nat) := (pNum t a).bind fun z1 => (pNum t z1.2).bind fun z2 => (pNum t z2.2).bind fun z3 => (pNum t z3.2).bind fun z4 => (pWord t z4.2).bind fun z5 => (pMany 4 t z5.2).bind fun z6 => (pRep (pChg t) z6.1 z6.2 []).bind fun z7 => some ((z1.1, z2.1, z3.1, z4.1, z5.1, z7.1), z7.2)
theorem Rd.prf {t : ByteArray} {a a1 a2 a3 a4 a5 : Nat} {b b1 b2 b3 b4 b5 : Bool} {v q : Int} {op : ByteArray} {N : Nat} {l : List Sh.int.T} (R1 : Rd (pNum t a) t b v a1 b1) (R2 : Rd (pNum t a1) t b1 q a2 b2) (R3 : Rd (pWord t a2) t b2 op a3 b3) (R4 : Rd (pMany 4 t a3) t b3 N a4 b4) (R5 : Rd (pRep (pNum t) N a4 []) t b4 l a5 b5) : Rd (pPrf t a) t b (v, q, op, l) a5 b5 :=
  R1.bind (q := fun x1 e1 => (pNum t e1).bind fun z2 => (pWord t z2.2).bind fun z3 => (pMany 4 t z3.2).bind fun z4 => (pRep (pNum t) z4.1 z4.2 []).bind fun z5 => some ((x1, z2.1, z3.1, z5.1), z5.2))
    (R2.bind (q := fun x2 e2 => (pWord t e2).bind fun z3 => (pMany 4 t z3.2).bind fun z4 => (pRep (pNum t) z4.1 z4.2 []).bind fun z5 => some ((v, x2, z3.1, z5.1), z5.2))
    (R3.bind (q := fun x3 e3 => (pMany 4 t e3).bind fun z4 => (pRep (pNum t) z4.1 z4.2 []).bind fun z5 => some ((v, q, x3, z5.1), z5.2))
    (R4.bind (q := fun x4 e4 => (pRep (pNum t) x4 e4 []).bind fun z5 => some ((v, q, op, z5.1), z5.2))
    (R5.bind (q := fun x5 e5 => some ((v, q, op, x5), e5)) (Rd.pure R5.le)))))
theorem Rd.chg {t : ByteArray} {a a1 a2 a3 a4 : Nat} {b b1 b2 b3 b4 : Bool} {f v : Int} {N : Nat} {l : List proofSh.T} (R1 : Rd (pNum t a) t b f a1 b1) (R2 : Rd (pNum t a1) t b1 v a2 b2) (R3 : Rd (pMany 6 t a2) t b2 N a3 b3) (R4 : Rd (pRep (pPrf t) N a3 []) t b3 l a4 b4) : Rd (pChg t a) t b (f, v, l) a4 b4 :=
  R1.bind (q := fun x1 e1 => (pNum t e1).bind fun z2 => (pMany 6 t z2.2).bind fun z3 => (pRep (pPrf t) z3.1 z3.2 []).bind fun z4 => some ((x1, z2.1, z4.1), z4.2))
    (R2.bind (q := fun x2 e2 => (pMany 6 t e2).bind fun z3 => (pRep (pPrf t) z3.1 z3.2 []).bind fun z4 => some ((f, x2, z4.1), z4.2))
    (R3.bind (q := fun x3 e3 => (pRep (pPrf t) x3 e3 []).bind fun z4 => some ((f, v, z4.1), z4.2))
    (R4.bind (q := fun x4 e4 => some ((f, v, x4), e4)) (Rd.pure R4.le))))
theorem Rd.say {t : ByteArray} {a a1 a2 a3 a4 a5 a6 a7 : Nat} {b b1 b2 b3 b4 b5 b6 b7 : Bool} {k f v q : Int} {op : ByteArray} {N : Nat} {l : List changeSh.T} (R1 : Rd (pNum t a) t b k a1 b1) (R2 : Rd (pNum t a1) t b1 f a2 b2) (R3 : Rd (pNum t a2) t b2 v a3 b3) (R4 : Rd (pNum t a3) t b3 q a4 b4) (R5 : Rd (pWord t a4) t b4 op a5 b5) (R6 : Rd (pMany 4 t a5) t b5 N a6 b6) (R7 : Rd (pRep (pChg t) N a6 []) t b6 l a7 b7) : Rd (pSay t a) t b (k, f, v, q, op, l) a7 b7 :=
  R1.bind (q := fun x1 e1 => (pNum t e1).bind fun z2 => (pNum t z2.2).bind fun z3 => (pNum t z3.2).bind fun z4 => (pWord t z4.2).bind fun z5 => (pMany 4 t z5.2).bind fun z6 => (pRep (pChg t) z6.1 z6.2 []).bind fun z7 => some ((x1, z2.1, z3.1, z4.1, z5.1, z7.1), z7.2))
    (R2.bind (q := fun x2 e2 => (pNum t e2).bind fun z3 => (pNum t z3.2).bind fun z4 => (pWord t z4.2).bind fun z5 => (pMany 4 t z5.2).bind fun z6 => (pRep (pChg t) z6.1 z6.2 []).bind fun z7 => some ((k, x2, z3.1, z4.1, z5.1, z7.1), z7.2))
    (R3.bind (q := fun x3 e3 => (pNum t e3).bind fun z4 => (pWord t z4.2).bind fun z5 => (pMany 4 t z5.2).bind fun z6 => (pRep (pChg t) z6.1 z6.2 []).bind fun z7 => some ((k, f, x3, z4.1, z5.1, z7.1), z7.2))
    (R4.bind (q := fun x4 e4 => (pWord t e4).bind fun z5 => (pMany 4 t z5.2).bind fun z6 => (pRep (pChg t) z6.1 z6.2 []).bind fun z7 => some ((k, f, v, x4, z5.1, z7.1), z7.2))
    (R5.bind (q := fun x5 e5 => (pMany 4 t e5).bind fun z6 => (pRep (pChg t) z6.1 z6.2 []).bind fun z7 => some ((k, f, v, q, x5, z7.1), z7.2))
    (R6.bind (q := fun x6 e6 => (pRep (pChg t) x6 e6 []).bind fun z7 => some ((k, f, v, q, op, z7.1), z7.2))
    (R7.bind (q := fun x7 e7 => some ((k, f, v, q, op, x7), e7)) (Rd.pure R7.le)))))))
theorem pPrf_enc {t : ByteArray} {a e : Nat} {x : proofSh.T} (h : pPrf t a = some (x, e)) : a ≤ e ∧ e ≤ t.size ∧ t.extract a e = prfB x := by
  unfold pPrf at h
  simp only [Option.bind_eq_some_iff] at h
  obtain ⟨⟨v, e1⟩, h1, ⟨q, e2⟩, h2, ⟨op, e3⟩, h3, ⟨m, e4⟩, h4, ⟨l, e5⟩, h5, h6⟩ := h
  cases h6
  obtain ⟨q1, q2, q3, _⟩ := pNum_enc h1
  obtain ⟨r1, r2, r3, _⟩ := pNum_enc h2
  obtain ⟨s1, s2, s3, _⟩ := pWord_enc h3
  obtain ⟨v1, v2, v3, _⟩ := pMany_enc h4
  dsimp only at *
  obtain ⟨w1, w2, ys, rfl, w4, w5, _⟩ := pRep_enc (enc := nb) (q := fun _ => True) (fun a x e h => ⟨by have := (pNum_enc h).1; omega, (pNum_enc h).2.1, (pNum_enc h).2.2.1, trivial⟩) _ _ _ _ _ v2 h5
  refine ⟨by omega, w2, ?_⟩
  rw [extract_split (b := e1) (by omega) (by omega), extract_split (a := e1) (b := e2) (by omega) (by omega), extract_split (a := e2) (b := e3) (by omega) (by omega), extract_split (a := e3) (b := e4) (by omega) (by omega), q3, r3, s3, v3, w5]
  subst w4
  show _ = cat ([nb v, nb q, vt op, nb (l.length : Int)] ++ (l.take l.length).map nb)
  simp only [List.take_length, cat_append]
  show _ = (nb v ++ (nb q ++ (vt op ++ (nb (l.length : Int) ++ ⟨#[]⟩)))) ++ cat (l.map nb)
  simp only [ba_assoc, ba_append_nil]
theorem pChg_enc {t : ByteArray} {a e : Nat} {x : changeSh.T} (h : pChg t a = some (x, e)) : a ≤ e ∧ e ≤ t.size ∧ t.extract a e = chgB x := by
  unfold pChg at h
  simp only [Option.bind_eq_some_iff] at h
  obtain ⟨⟨v, e1⟩, h1, ⟨q, e2⟩, h2, ⟨m, e4⟩, h4, ⟨l, e5⟩, h5, h6⟩ := h
  cases h6
  obtain ⟨q1, q2, q3, _⟩ := pNum_enc h1
  obtain ⟨r1, r2, r3, _⟩ := pNum_enc h2
  obtain ⟨v1, v2, v3, _⟩ := pMany_enc h4
  dsimp only at *
  obtain ⟨w1, w2, ys, rfl, w4, w5, _⟩ := pRep_enc (enc := prfB) (q := fun _ => True) (fun a x e h => ⟨(pPrf_enc h).1, (pPrf_enc h).2.1, (pPrf_enc h).2.2, trivial⟩) _ _ _ _ _ v2 h5
  refine ⟨by omega, w2, ?_⟩
  rw [extract_split (b := e1) (by omega) (by omega), extract_split (a := e1) (b := e2) (by omega) (by omega), extract_split (a := e2) (b := e4) (by omega) (by omega), q3, r3, v3, w5]
  subst w4
  show _ = cat ([nb v, nb q, nb (l.length : Int)] ++ (l.take l.length).map prfB)
  simp only [List.take_length, cat_append]
  show _ = (nb v ++ (nb q ++ (nb (l.length : Int) ++ ⟨#[]⟩))) ++ cat (l.map prfB)
  simp only [ba_assoc, ba_append_nil]
theorem pSay_enc {t : ByteArray} {a e : Nat} {k f v q : Int} {op : ByteArray} {cs : List changeSh.T} (h : pSay t a = some ((k, f, v, q, op, cs), e)) : a < e ∧ e ≤ t.size ∧ t.extract a e = sayB k f v q op cs := by
  unfold pSay at h
  simp only [Option.bind_eq_some_iff] at h
  obtain ⟨⟨z1, e1⟩, h1, ⟨z2, e2⟩, h2, ⟨z3, e3⟩, h3, ⟨z4, e4⟩, h4, ⟨z5, e5⟩, h5, ⟨m, e6⟩, h6, ⟨l, e7⟩, h7, h8⟩ := h
  cases h8
  obtain ⟨q1, q2, q3, _⟩ := pNum_enc h1
  obtain ⟨r1, r2, r3, _⟩ := pNum_enc h2
  obtain ⟨s1, s2, s3, _⟩ := pNum_enc h3
  obtain ⟨t1, t2, t3, _⟩ := pNum_enc h4
  obtain ⟨u1, u2, u3, _⟩ := pWord_enc h5
  obtain ⟨v1, v2, v3, _⟩ := pMany_enc h6
  dsimp only at *
  obtain ⟨w1, w2, ys, rfl, w4, w5, _⟩ := pRep_enc (enc := chgB) (q := fun _ => True) (fun a x e h => ⟨(pChg_enc h).1, (pChg_enc h).2.1, (pChg_enc h).2.2, trivial⟩) _ _ _ _ _ v2 h7
  refine ⟨by omega, w2, ?_⟩
  rw [extract_split (b := e1) (by omega) (by omega), extract_split (a := e1) (b := e2) (by omega) (by omega), extract_split (a := e2) (b := e3) (by omega) (by omega), extract_split (a := e3) (b := e4) (by omega) (by omega), extract_split (a := e4) (b := e5) (by omega) (by omega), extract_split (a := e5) (b := e6) (by omega) (by omega), q3, r3, s3, t3, u3, v3, w5]
  subst w4
  show _ = cat ([nb z1, nb z2, nb z3, nb z4, vt z5, nb (l.length : Int)] ++ (l.take l.length).map chgB)
  simp only [List.take_length, cat_append]
  show _ = (nb z1 ++ (nb z2 ++ (nb z3 ++ (nb z4 ++ (vt z5 ++ (nb (l.length : Int) ++ ⟨#[]⟩)))))) ++ cat (l.map chgB)
  simp only [ba_assoc, ba_append_nil]
theorem prfPre_size {v q : Int} {op : ByteArray} {l : List Sh.int.T} (H : PrfOk v q op l) (j : Nat) : (cat (prfPre (v, q, op, l) j)).size ≤ 200 := by
  obtain ⟨hv, hq, ho, hl⟩ := H
  have hl4 := hl.len
  have h1 := nb_sz hv (by omega) (by omega)
  have h2 := nb_sz hq (by omega) (by omega)
  have h3 := vt_size' (t := op) (by omega)
  have h4 := nb_size (n := (l.length : Int)) (by omega)
  have h5 := cat_map_take (f := nb) (m := 10) (xs := (l : List Int)) (fun x hx => nb_sz (hl.1.mem hx) (by omega) (by omega)) j
  show (cat ([nb v, nb q, vt op, nb (l.length : Int)] ++ ((l : List Int).take j).map nb)).size ≤ 200
  rw [cat_size_app]
  simp only [cat_size_cons, cat_size_nil]
  omega
theorem chgPre_size {f v : Int} {l : List proofSh.T} (H : ChgOk f v l) (j : Nat) : (cat (chgPre (f, v, l) j)).size ≤ 1230 := by
  have hl4 := H.len
  obtain ⟨hf, hv, hl⟩ := H
  have h1 := nb_sz hf (by omega) (by omega)
  have h2 := nb_sz hv (by omega) (by omega)
  have h4 := nb_size (n := (l.length : Int)) (by omega)
  have h5 := cat_map_take (f := prfB) (m := 200) (xs := l) (fun x hx => prfPre_size (Asc.mem hl hx).1 _) j
  show (cat ([nb f, nb v, nb (l.length : Int)] ++ (l.take j).map prfB)).size ≤ 1230
  rw [cat_size_app]
  simp only [cat_size_cons, cat_size_nil]
  omega
theorem SayOk.nums {k f v q : Int} {op : ByteArray} {cs : List changeSh.T} (H : SayOk k f v q op cs) : InR 1 5 k ∧ InR 0 3 f ∧ InR 0 7 v ∧ InR 0 6 q ∧ op.size ≤ 120 ∧ cs.length ≤ 4 := by
  have hl := ChgsOk.len H.2.2.1
  unfold SayOk InR at *
  omega
theorem sayPre_size {k f v q : Int} {op : ByteArray} {cs : List changeSh.T} (H : SayOk k f v q op cs) (j : Nat) : (cat (sayPre k f v q op cs j)).size ≤ 5200 := by
  obtain ⟨hk, hf, hv, hq, ho, hl⟩ := H.nums
  have h1 := nb_sz hk (by omega) (by omega)
  have h2 := nb_sz hf (by omega) (by omega)
  have h3 := nb_sz hv (by omega) (by omega)
  have h4 := nb_sz hq (by omega) (by omega)
  have h5 := vt_size' (t := op) (by omega)
  have h6 := nb_size (n := (cs.length : Int)) (by omega)
  have h7 := cat_map_take (f := chgB) (m := 1230) (xs := cs) (fun x hx => chgPre_size (Asc.mem H.2.2.1 hx).1 _) j
  show (cat ([nb k, nb f, nb v, nb q, vt op, nb (cs.length : Int)] ++ (cs.take j).map chgB)).size ≤ 5200
  rw [cat_size_app]
  simp only [cat_size_cons, cat_size_nil]
  omega
end Go.Dat
end
section
namespace Go.Dat
open Go.Abs
def RdPrf (h : AHeap) (l : Nat) (t : ByteArray) (a : Nat) (b : Bool) (v : Value) (h' : AHeap) : Prop :=
  h'.wf ∧ Kp [l] h h' ∧ ∃ (x1 x2 : Int) (x3 : ByteArray) (x4 : List Sh.int.T) (y : Value) (j : List Nat) (a' : Nat) (b' : Bool), v = .agg #[.int .i64 x1, .int .i64 x2, .string x3, y] ∧ Sn h' Sh.int x4 y j ∧ Fresh h.n h'.n j ∧ proofSh.ok (x1, x2, x3, x4) ∧ h'.get l = some (rdO t a' b') ∧ Rd (pPrf t a) t b (x1, x2, x3, x4) a' b'
def RdChg (h : AHeap) (l : Nat) (t : ByteArray) (a : Nat) (b : Bool) (v : Value) (h' : AHeap) : Prop :=
  h'.wf ∧ Kp [l] h h' ∧ ∃ (x1 x2 : Int) (x3 : List proofSh.T) (y : Value) (j : List Nat) (a' : Nat) (b' : Bool), v = .agg #[.int .i64 x1, .int .i64 x2, y] ∧ Sn h' proofSh x3 y j ∧ Fresh h.n h'.n j ∧ changeSh.ok (x1, x2, x3) ∧ h'.get l = some (rdO t a' b') ∧ Rd (pChg t a) t b (x1, x2, x3) a' b'
end Go.Dat
namespace Go.Proofs.Ytanienlcebkijaa
open Go.Abs Go.Dat
set_option maxRecDepth 100000
set_option maxHeartbeats 8000000
def spL (s : Sh) (p : ByteArray → Nat → Option (s.T × Nat)) (h : AHeap) (l : Nat) (t : ByteArray) (N3 a3 : Nat) (b3 : Bool) (hd : List (Nat × Value)) (po : List (Nat × Value)) (k : Nat) (z S : List Value) : LSpec where
  ι := RX s.T
  κ := RX s.T
  I := fun x => LpI s (p t) t l h.n x ∧ Kp [l] h x.g ∧ x.N = N3 ∧ x.a1 = a3 ∧ x.b1 = b3
  μ := fun x => x.n
  head := fun x => ⟨hd ++ [(k, .int .i64 x.n)], [z, S ++ [.slice x.A x.m x.c]], x.g⟩
  post := fun x => ⟨po, [z, S ++ [.slice x.A x.m x.c]], x.g⟩
  R := fun _ x => LpI s (p t) t l h.n x ∧ Kp [l] h x.g ∧ x.N = N3 ∧ x.a1 = a3 ∧ x.b1 = b3 ∧ (x.n = 0 ∨ x.b = true)
  ret := fun _ _ _ => False
theorem srproof_spec (h : AHeap) (hw : h.wf) (l : Nat) (t : ByteArray) (a : Nat) (b : Bool) (ht : t.size ≤ 20000) (ha : a ≤ t.size) (hg : h.get l = some (rdO t a b)) : ∃ v h', ACall Try.prog 201 [.pointer (some ⟨l, 0, some 0⟩)] h v h' ∧ RdPrf h l t a b v h' := by
  have hl := hw.lt hg
  obtain ⟨_, g1, A1, w1, o1, x1, a1, b1, rfl, hx1, hg1, R1⟩ := srnum_spec h hw l t a b ht ha hg
  obtain ⟨_, g2, A2, w2, o2, x2, a2, b2, rfl, hx2, hg2, R2⟩ := srnum_spec g1 w1 l t a1 b1 ht R1.le hg1
  obtain ⟨_, g3, A3, w3, o3, x3, a3, b3, rfl, hx3, hg3, R3⟩ := srtext_spec g2 w2 l t a2 b2 ht R2.le hg2
  obtain ⟨_, g4, A4, w4, o4, N4, a4, b4, rfl, hN4, hg4, R4⟩ := srmany_spec g3 w3 l t a3 b3 4 (by omega) ht R3.le hg3
  have k4 : Kp [l] h g4 := o1.kp.trans (o2.kp.trans (o3.kp.trans o4.kp))
  refine acall_q fun Q HQ => ?_
  refine acall_vc (fun _ => false) (fun r => match r with | 7 => [(0, 0, []), (2, 0, []), (1, 1, []), (3, 3, [1]), (4, 3, [1]), (5, 3, []), (6, 0, []), (7, 3, [])] | _ => []) (fun _ => spL Sh.int pNum h l t N4 a4 b4 [(0, .pointer (some ⟨l, 0, some 0⟩)), (2, .complex .f32 0 0), (3, .complex .f32 1 0)] [(2, .complex .f32 0 0), (3, .complex .f32 1 0)] 4 [.int .i64 (Int.ofNat 0), .int .i64 (Int.ofNat 0), .string ⟨#[]⟩, .slice none 0 0] [.int .i64 x1, .int .i64 x2, .string x3]) mixed Try.func201 rfl rfl rfl (Nat.le_of_ble_eq_true rfl) ?_ ?_
  · refine vc_mp (by kernel_rfl : (True ∧ True ∧ True ∧ True ∧ (True ∧ (∀ (i : RX (Sh.T Sh.int)), LpI Sh.int (pNum t) t l (AHeap.n h) i ∧ Kp [l] h (RX.g i) ∧ RX.N i = N4 ∧ RX.a1 i = a4 ∧ RX.b1 i = b4 → bs (decide ((↑(RX.n i) : Int) > (0 : Int))) (∃ (x : Bool), AHeap.ld (RX.g i) l (0 : Nat) (2 : Nat) (1 : Nat) = some [Value.bool x] ∧ bs (!x) (∃ (x : Int), ∃ (h' : AHeap), ACall Try.prog (169 : Nat) [Value.pointer (some (Addr.mk l (0 : Nat) (some (0 : Nat))))] (RX.g i) (Value.int IntKind.i64 x) h' ∧ Value.slice (RX.A i) (RX.m i) (RX.c i) = Value.slice (RX.A i) (RX.m i) (RX.c i) ∧ Value.slice (RX.A i) (RX.m i) (RX.c i) = Value.slice (RX.A i) (RX.m i) (RX.c i) ∧ ∃ (xs : List (List Value)), rowsV (AHeap.push h' (AObj.mk [[Value.int IntKind.i64 x]] (1 : Nat) true)) (Value.slice (some (Addr.mk (AHeap.n h') (0 : Nat) (some (1 : Nat)))) (1 : Nat) (2 : Nat)) = some xs ∧ (List.all xs fun (row : List Value) => decide (List.length row = (1 : Nat)) && List.all row fun (v : Value) => match v with | Value.agg cells => false | Value.tuple cells => false | Value.complex k re im => false | Value.chan r => false | x => true) = true ∧ (RX.m i + List.length xs) * (8 : Nat) ≤ (140737488355328 : Nat) ∧ ∃ (a : Option Addr), ∃ (n : Nat), ∃ (c : Nat), ∃ (h'_1 : AHeap), AHeap.app (AHeap.push h' (AObj.mk [[Value.int IntKind.i64 x]] (1 : Nat) true)) (Value.slice (RX.A i) (RX.m i) (RX.c i)) xs (1 : Nat) = some (Value.slice a n c, h'_1) ∧ ∃ (j : RX (Sh.T Sh.int)), Value.pointer (some (Addr.mk l (0 : Nat) (some (0 : Nat)))) = Value.pointer (some (Addr.mk l (0 : Nat) (some (0 : Nat)))) ∧ Value.complex FloatKind.f32 (0 : Nat) (0 : Nat) = Value.complex FloatKind.f32 (0 : Nat) (0 : Nat) ∧ Value.complex FloatKind.f32 (1 : Nat) (0 : Nat) = Value.complex FloatKind.f32 (1 : Nat) (0 : Nat) ∧ Value.int IntKind.i64 (IntKind.wrap IntKind.i64 ((↑(RX.n i) : Int) - (1 : Int))) = Value.int IntKind.i64 (↑(RX.n j) : Int) ∧ [Value.int IntKind.i64 (Int.ofNat (0 : Nat)), Value.int IntKind.i64 (Int.ofNat (0 : Nat)), Value.string (ByteArray.mk (Array.mk [])), Value.slice none (0 : Nat) (0 : Nat)] = [Value.int IntKind.i64 (Int.ofNat (0 : Nat)), Value.int IntKind.i64 (Int.ofNat (0 : Nat)), Value.string (ByteArray.mk (Array.mk [])), Value.slice none (0 : Nat) (0 : Nat)] ∧ [Value.int IntKind.i64 x1, Value.int IntKind.i64 x2, Value.string x3, Value.slice (RX.A j) (RX.m j) (RX.c j)] = [Value.int IntKind.i64 x1, Value.int IntKind.i64 x2, Value.string x3, Value.slice a n c] ∧ RX.g j = h'_1 ∧ (LpI Sh.int (pNum t) t l (AHeap.n h) j ∧ Kp [l] h (RX.g j) ∧ RX.N j = N4 ∧ RX.a1 j = a4 ∧ RX.b1 j = b4) ∧ RX.n j < RX.n i ∧ (∀ (k : RX (Sh.T Sh.int)), LpI Sh.int (pNum t) t l (AHeap.n h) k ∧ Kp [l] h (RX.g k) ∧ RX.N k = N4 ∧ RX.a1 k = a4 ∧ RX.b1 k = b4 ∧ (RX.n k = (0 : Nat) ∨ RX.b k = true) → LpI Sh.int (pNum t) t l (AHeap.n h) k ∧ Kp [l] h (RX.g k) ∧ RX.N k = N4 ∧ RX.a1 k = a4 ∧ RX.b1 k = b4 ∧ (RX.n k = (0 : Nat) ∨ RX.b k = true)) ∧ ∀ (v : Value) (h : AHeap), False → False) (∃ (j : RX (Sh.T Sh.int)), Value.complex FloatKind.f32 (0 : Nat) (0 : Nat) = Value.complex FloatKind.f32 (0 : Nat) (0 : Nat) ∧ Value.complex FloatKind.f32 (1 : Nat) (0 : Nat) = Value.complex FloatKind.f32 (1 : Nat) (0 : Nat) ∧ [Value.int IntKind.i64 (Int.ofNat (0 : Nat)), Value.int IntKind.i64 (Int.ofNat (0 : Nat)), Value.string (ByteArray.mk (Array.mk [])), Value.slice none (0 : Nat) (0 : Nat)] = [Value.int IntKind.i64 (Int.ofNat (0 : Nat)), Value.int IntKind.i64 (Int.ofNat (0 : Nat)), Value.string (ByteArray.mk (Array.mk [])), Value.slice none (0 : Nat) (0 : Nat)] ∧ [Value.int IntKind.i64 x1, Value.int IntKind.i64 x2, Value.string x3, Value.slice (RX.A j) (RX.m j) (RX.c j)] = [Value.int IntKind.i64 x1, Value.int IntKind.i64 x2, Value.string x3, Value.slice (RX.A i) (RX.m i) (RX.c i)] ∧ RX.g j = RX.g i ∧ LpI Sh.int (pNum t) t l (AHeap.n h) j ∧ Kp [l] h (RX.g j) ∧ RX.N j = N4 ∧ RX.a1 j = a4 ∧ RX.b1 j = b4 ∧ (RX.n j = (0 : Nat) ∨ RX.b j = true))) (∃ (j : RX (Sh.T Sh.int)), Value.complex FloatKind.f32 (0 : Nat) (0 : Nat) = Value.complex FloatKind.f32 (0 : Nat) (0 : Nat) ∧ Value.complex FloatKind.f32 (1 : Nat) (0 : Nat) = Value.complex FloatKind.f32 (1 : Nat) (0 : Nat) ∧ [Value.int IntKind.i64 (Int.ofNat (0 : Nat)), Value.int IntKind.i64 (Int.ofNat (0 : Nat)), Value.string (ByteArray.mk (Array.mk [])), Value.slice none (0 : Nat) (0 : Nat)] = [Value.int IntKind.i64 (Int.ofNat (0 : Nat)), Value.int IntKind.i64 (Int.ofNat (0 : Nat)), Value.string (ByteArray.mk (Array.mk [])), Value.slice none (0 : Nat) (0 : Nat)] ∧ [Value.int IntKind.i64 x1, Value.int IntKind.i64 x2, Value.string x3, Value.slice (RX.A j) (RX.m j) (RX.c j)] = [Value.int IntKind.i64 x1, Value.int IntKind.i64 x2, Value.string x3, Value.slice (RX.A i) (RX.m i) (RX.c i)] ∧ RX.g j = RX.g i ∧ LpI Sh.int (pNum t) t l (AHeap.n h) j ∧ Kp [l] h (RX.g j) ∧ RX.N j = N4 ∧ RX.a1 j = a4 ∧ RX.b1 j = b4 ∧ (RX.n j = (0 : Nat) ∨ RX.b j = true))) ∧ (True ∧ True ∧ True) ∧ True ∧ True) ∧ True ∧ True) = _) ?_
    simp only [true_and, and_true]
    rintro ⟨N, a1', b1', n, A, m, c, xs, ids, a', b', g⟩ ⟨I, k, rfl, rfl, rfl⟩
    dsimp only at *
    obtain ⟨_, _, d3, _⟩ := rd_ld I.rd
    have fin : ∀ P : RX Sh.int.T → Prop, P ⟨N, a1', b1', n, A, m, c, xs, ids, a', b', g⟩ → ∃ j, P j := fun _ h => ⟨_, h⟩
    refine bs_d (fun hn => ⟨_, d3, bs_nb (fun hb => ?_) (fun hb => fin _ ⟨rfl, rfl, I, k, rfl, rfl, rfl, .inr hb⟩)⟩) (fun hn => fin _ ⟨rfl, rfl, I, k, rfl, rfl, rfl, .inl (by dsimp only; omega)⟩)
    subst hb
    obtain ⟨n, rfl⟩ : ∃ n', n = n' + 1 := ⟨n - 1, by omega⟩
    have hm := I.bnd
    have hl1 := I.rep.len
    have hl2 := I.small
    dsimp only at hm hl1 hl2
    obtain ⟨_, g1, A1, w1, o1, y, a2, b2, rfl, hy, hg1, R1⟩ := srnum_spec g I.sb.wf l t a' false ht I.rep.le I.rd
    have lp := AHeap.Le.push w1 ⟨[[.int .i64 y]], 1, true⟩
    obtain ⟨l', g2, ids', e, I2, k2, _, _⟩ := I.step hl (o1.kp.trans (.of_le lp)) (w1.push _) (lp.get _ _ hg1) (y := y) R1 (cs := [.int .i64 y]) (js := []) ⟨rfl, rfl⟩ .nil hy
    refine ⟨_, _, A1, [[.int .i64 y]], rowsV_lit rfl, rfl, by simp only [List.length_singleton]; omega, _, _, _, _, e, ?_⟩
    exact ⟨⟨N, a1', b1', n, some ⟨l', 0, some 1⟩, m + 1, 0, xs ++ [y], ids', a2, b2, g2⟩, by rw [wrap_i64 (by omega)]; dsimp only; congr 1; omega, rfl, rfl, ⟨I2, I.kp hw (Nat.le_refl _) k k2, rfl, rfl, rfl⟩, by dsimp only; omega, fun _ h => h, fun _ _ h => h⟩
  refine vc_mp (by kernel_rfl : (∃ (x : Int), ∃ (h' : AHeap), ACall Try.prog (169 : Nat) [Value.pointer (some (Addr.mk l (0 : Nat) (some (0 : Nat))))] h (Value.int IntKind.i64 x) h' ∧ ∃ (x_1 : Int), ∃ (h'_1 : AHeap), ACall Try.prog (169 : Nat) [Value.pointer (some (Addr.mk l (0 : Nat) (some (0 : Nat))))] h' (Value.int IntKind.i64 x_1) h'_1 ∧ ∃ (x_2 : ByteArray), ∃ (h' : AHeap), ACall Try.prog (170 : Nat) [Value.pointer (some (Addr.mk l (0 : Nat) (some (0 : Nat))))] h'_1 (Value.string x_2) h' ∧ ∃ (x_3 : Int), ∃ (h'_2 : AHeap), ACall Try.prog (171 : Nat) [Value.pointer (some (Addr.mk l (0 : Nat) (some (0 : Nat)))), Value.int IntKind.i64 (4 : Int)] h' (Value.int IntKind.i64 x_3) h'_2 ∧ ∃ (i : RX (Sh.T Sh.int)), Value.pointer (some (Addr.mk l (0 : Nat) (some (0 : Nat)))) = Value.pointer (some (Addr.mk l (0 : Nat) (some (0 : Nat)))) ∧ Value.complex FloatKind.f32 (0 : Nat) (0 : Nat) = Value.complex FloatKind.f32 (0 : Nat) (0 : Nat) ∧ Value.complex FloatKind.f32 (1 : Nat) (0 : Nat) = Value.complex FloatKind.f32 (1 : Nat) (0 : Nat) ∧ Value.int IntKind.i64 x_3 = Value.int IntKind.i64 (↑(RX.n i) : Int) ∧ [Value.int IntKind.i64 (Int.ofNat (0 : Nat)), Value.int IntKind.i64 (Int.ofNat (0 : Nat)), Value.string (ByteArray.mk (Array.mk [])), Value.slice none (0 : Nat) (0 : Nat)] = [Value.int IntKind.i64 (Int.ofNat (0 : Nat)), Value.int IntKind.i64 (Int.ofNat (0 : Nat)), Value.string (ByteArray.mk (Array.mk [])), Value.slice none (0 : Nat) (0 : Nat)] ∧ [Value.int IntKind.i64 x1, Value.int IntKind.i64 x2, Value.string x3, Value.slice (RX.A i) (RX.m i) (RX.c i)] = [Value.int IntKind.i64 x, Value.int IntKind.i64 x_1, Value.string x_2, Value.slice none (0 : Nat) (0 : Nat)] ∧ RX.g i = h'_2 ∧ (LpI Sh.int (pNum t) t l (AHeap.n h) i ∧ Kp [l] h (RX.g i) ∧ RX.N i = N4 ∧ RX.a1 i = a4 ∧ RX.b1 i = b4) ∧ (∀ (j : RX (Sh.T Sh.int)), LpI Sh.int (pNum t) t l (AHeap.n h) j ∧ Kp [l] h (RX.g j) ∧ RX.N j = N4 ∧ RX.a1 j = a4 ∧ RX.b1 j = b4 ∧ (RX.n j = (0 : Nat) ∨ RX.b j = true) → Q (Value.agg (Array.mk [Value.int IntKind.i64 x1, Value.int IntKind.i64 x2, Value.string x3, Value.slice (RX.A j) (RX.m j) (RX.c j)])) (RX.g j)) ∧ ∀ (v : Value) (h : AHeap), False → Q v h) = _) ?_
  refine ⟨_, _, A1, _, _, A2, _, _, A3, _, _, A4, ⟨N4, a4, b4, N4, none, 0, 0, [], [], a4, b4, g4⟩, rfl, rfl, rfl, rfl, rfl, rfl, rfl, ⟨.start w4 k4.n (by omega) R4.le hg4, k4, rfl, rfl, rfl⟩, ?_, fun _ _ h => h.elim⟩
  rintro ⟨N, a1', b1', n, A, m, c, xs, ids, a5, b5, g⟩ ⟨I, k, rfl, rfl, rfl, hd⟩
  have R5 := I.fin hd
  dsimp only at *
  exact HQ _ _ ⟨I.sb.wf, k, x1, x2, x3, xs, _, ids, a5, b5, rfl, I.sb.sn, I.sb.fr, ⟨hx1, hx2, by show x3.size ≤ _; omega, I.okl⟩, I.rd, R1.prf R2 R3 R4 R5⟩
theorem srchange_spec (h : AHeap) (hw : h.wf) (l : Nat) (t : ByteArray) (a : Nat) (b : Bool) (ht : t.size ≤ 20000) (ha : a ≤ t.size) (hg : h.get l = some (rdO t a b)) : ∃ v h', ACall Try.prog 172 [.pointer (some ⟨l, 0, some 0⟩)] h v h' ∧ RdChg h l t a b v h' := by
  have hl := hw.lt hg
  obtain ⟨_, g1, A1, w1, o1, x1, a1, b1, rfl, hx1, hg1, R1⟩ := srnum_spec h hw l t a b ht ha hg
  obtain ⟨_, g2, A2, w2, o2, x2, a2, b2, rfl, hx2, hg2, R2⟩ := srnum_spec g1 w1 l t a1 b1 ht R1.le hg1
  obtain ⟨_, g4, A4, w4, o4, N4, a4, b4, rfl, hN4, hg4, R4⟩ := srmany_spec g2 w2 l t a2 b2 6 (by omega) ht R2.le hg2
  have k4 : Kp [l] h g4 := o1.kp.trans (o2.kp.trans o4.kp)
  refine acall_q fun Q HQ => ?_
  refine acall_vc (fun _ => false) (fun r => match r with | 6 => [(0, 0, []), (2, 0, []), (1, 1, []), (3, 3, [1]), (4, 3, [1]), (5, 3, []), (6, 0, []), (7, 3, [])] | _ => []) (fun _ => spL proofSh pPrf h l t N4 a4 b4 [(0, .pointer (some ⟨l, 0, some 0⟩)), (2, .complex .f32 0 0), (3, .complex .f32 1 0)] [(2, .complex .f32 0 0), (3, .complex .f32 1 0)] 4 [.int .i64 (Int.ofNat 0), .int .i64 (Int.ofNat 0), .slice none 0 0] [.int .i64 x1, .int .i64 x2]) mixed Try.func172 rfl rfl rfl (Nat.le_of_ble_eq_true rfl) ?_ ?_
  · refine vc_mp (by kernel_rfl : (True ∧ True ∧ True ∧ (True ∧ (∀ (i : RX (Sh.T proofSh)), LpI proofSh (pPrf t) t l (AHeap.n h) i ∧ Kp [l] h (RX.g i) ∧ RX.N i = N4 ∧ RX.a1 i = a4 ∧ RX.b1 i = b4 → bs (decide ((↑(RX.n i) : Int) > (0 : Int))) (∃ (x : Bool), AHeap.ld (RX.g i) l (0 : Nat) (2 : Nat) (1 : Nat) = some [Value.bool x] ∧ bs (!x) (∃ (x : Int), ∃ (x_1 : Int), ∃ (x_2 : ByteArray), ∃ (a : Option Addr), ∃ (n : Nat), ∃ (c : Nat), ∃ (h' : AHeap), ACall Try.prog (201 : Nat) [Value.pointer (some (Addr.mk l (0 : Nat) (some (0 : Nat))))] (RX.g i) (Value.agg (Array.mk [Value.int IntKind.i64 x, Value.int IntKind.i64 x_1, Value.string x_2, Value.slice a n c])) h' ∧ Value.slice (RX.A i) (RX.m i) (RX.c i) = Value.slice (RX.A i) (RX.m i) (RX.c i) ∧ Value.slice (RX.A i) (RX.m i) (RX.c i) = Value.slice (RX.A i) (RX.m i) (RX.c i) ∧ ∃ (xs : List (List Value)), rowsV (AHeap.push h' (AObj.mk [[Value.int IntKind.i64 x, Value.int IntKind.i64 x_1, Value.string x_2, Value.slice a n c]] (4 : Nat) true)) (Value.slice (some (Addr.mk (AHeap.n h') (0 : Nat) (some (4 : Nat)))) (1 : Nat) (2 : Nat)) = some xs ∧ (List.all xs fun (row : List Value) => decide (List.length row = (4 : Nat)) && List.all row fun (v : Value) => match v with | Value.agg cells => false | Value.tuple cells => false | Value.complex k re im => false | Value.chan r => false | x => true) = true ∧ (RX.m i + List.length xs) * (56 : Nat) ≤ (140737488355328 : Nat) ∧ ∃ (a_1 : Option Addr), ∃ (n_1 : Nat), ∃ (c_1 : Nat), ∃ (h'_1 : AHeap), AHeap.app (AHeap.push h' (AObj.mk [[Value.int IntKind.i64 x, Value.int IntKind.i64 x_1, Value.string x_2, Value.slice a n c]] (4 : Nat) true)) (Value.slice (RX.A i) (RX.m i) (RX.c i)) xs (4 : Nat) = some (Value.slice a_1 n_1 c_1, h'_1) ∧ ∃ (j : RX (Sh.T proofSh)), Value.pointer (some (Addr.mk l (0 : Nat) (some (0 : Nat)))) = Value.pointer (some (Addr.mk l (0 : Nat) (some (0 : Nat)))) ∧ Value.complex FloatKind.f32 (0 : Nat) (0 : Nat) = Value.complex FloatKind.f32 (0 : Nat) (0 : Nat) ∧ Value.complex FloatKind.f32 (1 : Nat) (0 : Nat) = Value.complex FloatKind.f32 (1 : Nat) (0 : Nat) ∧ Value.int IntKind.i64 (IntKind.wrap IntKind.i64 ((↑(RX.n i) : Int) - (1 : Int))) = Value.int IntKind.i64 (↑(RX.n j) : Int) ∧ [Value.int IntKind.i64 (Int.ofNat (0 : Nat)), Value.int IntKind.i64 (Int.ofNat (0 : Nat)), Value.slice none (0 : Nat) (0 : Nat)] = [Value.int IntKind.i64 (Int.ofNat (0 : Nat)), Value.int IntKind.i64 (Int.ofNat (0 : Nat)), Value.slice none (0 : Nat) (0 : Nat)] ∧ [Value.int IntKind.i64 x1, Value.int IntKind.i64 x2, Value.slice (RX.A j) (RX.m j) (RX.c j)] = [Value.int IntKind.i64 x1, Value.int IntKind.i64 x2, Value.slice a_1 n_1 c_1] ∧ RX.g j = h'_1 ∧ (LpI proofSh (pPrf t) t l (AHeap.n h) j ∧ Kp [l] h (RX.g j) ∧ RX.N j = N4 ∧ RX.a1 j = a4 ∧ RX.b1 j = b4) ∧ RX.n j < RX.n i ∧ (∀ (k : RX (Sh.T proofSh)), LpI proofSh (pPrf t) t l (AHeap.n h) k ∧ Kp [l] h (RX.g k) ∧ RX.N k = N4 ∧ RX.a1 k = a4 ∧ RX.b1 k = b4 ∧ (RX.n k = (0 : Nat) ∨ RX.b k = true) → LpI proofSh (pPrf t) t l (AHeap.n h) k ∧ Kp [l] h (RX.g k) ∧ RX.N k = N4 ∧ RX.a1 k = a4 ∧ RX.b1 k = b4 ∧ (RX.n k = (0 : Nat) ∨ RX.b k = true)) ∧ ∀ (v : Value) (h : AHeap), False → False) (∃ (j : RX (Sh.T proofSh)), Value.complex FloatKind.f32 (0 : Nat) (0 : Nat) = Value.complex FloatKind.f32 (0 : Nat) (0 : Nat) ∧ Value.complex FloatKind.f32 (1 : Nat) (0 : Nat) = Value.complex FloatKind.f32 (1 : Nat) (0 : Nat) ∧ [Value.int IntKind.i64 (Int.ofNat (0 : Nat)), Value.int IntKind.i64 (Int.ofNat (0 : Nat)), Value.slice none (0 : Nat) (0 : Nat)] = [Value.int IntKind.i64 (Int.ofNat (0 : Nat)), Value.int IntKind.i64 (Int.ofNat (0 : Nat)), Value.slice none (0 : Nat) (0 : Nat)] ∧ [Value.int IntKind.i64 x1, Value.int IntKind.i64 x2, Value.slice (RX.A j) (RX.m j) (RX.c j)] = [Value.int IntKind.i64 x1, Value.int IntKind.i64 x2, Value.slice (RX.A i) (RX.m i) (RX.c i)] ∧ RX.g j = RX.g i ∧ LpI proofSh (pPrf t) t l (AHeap.n h) j ∧ Kp [l] h (RX.g j) ∧ RX.N j = N4 ∧ RX.a1 j = a4 ∧ RX.b1 j = b4 ∧ (RX.n j = (0 : Nat) ∨ RX.b j = true))) (∃ (j : RX (Sh.T proofSh)), Value.complex FloatKind.f32 (0 : Nat) (0 : Nat) = Value.complex FloatKind.f32 (0 : Nat) (0 : Nat) ∧ Value.complex FloatKind.f32 (1 : Nat) (0 : Nat) = Value.complex FloatKind.f32 (1 : Nat) (0 : Nat) ∧ [Value.int IntKind.i64 (Int.ofNat (0 : Nat)), Value.int IntKind.i64 (Int.ofNat (0 : Nat)), Value.slice none (0 : Nat) (0 : Nat)] = [Value.int IntKind.i64 (Int.ofNat (0 : Nat)), Value.int IntKind.i64 (Int.ofNat (0 : Nat)), Value.slice none (0 : Nat) (0 : Nat)] ∧ [Value.int IntKind.i64 x1, Value.int IntKind.i64 x2, Value.slice (RX.A j) (RX.m j) (RX.c j)] = [Value.int IntKind.i64 x1, Value.int IntKind.i64 x2, Value.slice (RX.A i) (RX.m i) (RX.c i)] ∧ RX.g j = RX.g i ∧ LpI proofSh (pPrf t) t l (AHeap.n h) j ∧ Kp [l] h (RX.g j) ∧ RX.N j = N4 ∧ RX.a1 j = a4 ∧ RX.b1 j = b4 ∧ (RX.n j = (0 : Nat) ∨ RX.b j = true))) ∧ (True ∧ True ∧ True) ∧ True ∧ True) ∧ True ∧ True) = _) ?_
    simp only [true_and, and_true]
    rintro ⟨N, a1', b1', n, A, m, c, xs, ids, a', b', g⟩ ⟨I, k, rfl, rfl, rfl⟩
    dsimp only at *
    obtain ⟨_, _, d3, _⟩ := rd_ld I.rd
    have fin : ∀ P : RX proofSh.T → Prop, P ⟨N, a1', b1', n, A, m, c, xs, ids, a', b', g⟩ → ∃ j, P j := fun _ h => ⟨_, h⟩
    refine bs_d (fun hn => ⟨_, d3, bs_nb (fun hb => ?_) (fun hb => fin _ ⟨rfl, rfl, I, k, rfl, rfl, rfl, .inr hb⟩)⟩) (fun hn => fin _ ⟨rfl, rfl, I, k, rfl, rfl, rfl, .inl (by dsimp only; omega)⟩)
    subst hb
    obtain ⟨n, rfl⟩ : ∃ n', n = n' + 1 := ⟨n - 1, by omega⟩
    have hm := I.bnd
    have hl1 := I.rep.len
    have hl2 := I.small
    dsimp only at hm hl1 hl2
    obtain ⟨_, g1, A1, w1, k1, x1, x2, x3, x4, y, J, a2, b2, rfl, S1, F1, ok1, hg1, R1⟩ := srproof_spec g I.sb.wf l t a' false ht I.rep.le I.rd
    obtain ⟨u, e, rfl⟩ := S1.so.sl.isSlice
    have lp := AHeap.Le.push w1 ⟨[[.int .i64 x1, .int .i64 x2, .string x3, .slice u x4.length e]], 4, true⟩
    obtain ⟨l', g2, ids', e1, I2, k2, _, _⟩ := I.step hl (k1.trans (.of_le lp)) (w1.push _) (lp.get _ _ hg1) (y := (x1, x2, x3, x4)) R1 (rn_proof.2 ⟨_, J, rfl, rfl, S1.le lp⟩) (by simpa using F1.widen (Nat.le_refl _) lp.n) ok1
    refine ⟨_, _, _, _, _, _, _, A1, _, rowsV_lit rfl, rfl, by simp only [List.length_singleton]; omega, _, _, _, _, e1, ?_⟩
    exact ⟨⟨N, a1', b1', n, some ⟨l', 0, some 4⟩, m + 1, 0, xs ++ [(x1, x2, x3, x4)], ids', a2, b2, g2⟩, by rw [wrap_i64 (by omega)]; dsimp only; congr 1; omega, rfl, rfl, ⟨I2, I.kp hw (Nat.le_refl _) k k2, rfl, rfl, rfl⟩, by dsimp only; omega, fun _ h => h, fun _ _ h => h⟩
  refine vc_mp (by kernel_rfl : (∃ (x : Int), ∃ (h' : AHeap), ACall Try.prog (169 : Nat) [Value.pointer (some (Addr.mk l (0 : Nat) (some (0 : Nat))))] h (Value.int IntKind.i64 x) h' ∧ ∃ (x_1 : Int), ∃ (h'_1 : AHeap), ACall Try.prog (169 : Nat) [Value.pointer (some (Addr.mk l (0 : Nat) (some (0 : Nat))))] h' (Value.int IntKind.i64 x_1) h'_1 ∧ ∃ (x_2 : Int), ∃ (h' : AHeap), ACall Try.prog (171 : Nat) [Value.pointer (some (Addr.mk l (0 : Nat) (some (0 : Nat)))), Value.int IntKind.i64 (6 : Int)] h'_1 (Value.int IntKind.i64 x_2) h' ∧ ∃ (i : RX (Sh.T proofSh)), Value.pointer (some (Addr.mk l (0 : Nat) (some (0 : Nat)))) = Value.pointer (some (Addr.mk l (0 : Nat) (some (0 : Nat)))) ∧ Value.complex FloatKind.f32 (0 : Nat) (0 : Nat) = Value.complex FloatKind.f32 (0 : Nat) (0 : Nat) ∧ Value.complex FloatKind.f32 (1 : Nat) (0 : Nat) = Value.complex FloatKind.f32 (1 : Nat) (0 : Nat) ∧ Value.int IntKind.i64 x_2 = Value.int IntKind.i64 (↑(RX.n i) : Int) ∧ [Value.int IntKind.i64 (Int.ofNat (0 : Nat)), Value.int IntKind.i64 (Int.ofNat (0 : Nat)), Value.slice none (0 : Nat) (0 : Nat)] = [Value.int IntKind.i64 (Int.ofNat (0 : Nat)), Value.int IntKind.i64 (Int.ofNat (0 : Nat)), Value.slice none (0 : Nat) (0 : Nat)] ∧ [Value.int IntKind.i64 x1, Value.int IntKind.i64 x2, Value.slice (RX.A i) (RX.m i) (RX.c i)] = [Value.int IntKind.i64 x, Value.int IntKind.i64 x_1, Value.slice none (0 : Nat) (0 : Nat)] ∧ RX.g i = h' ∧ (LpI proofSh (pPrf t) t l (AHeap.n h) i ∧ Kp [l] h (RX.g i) ∧ RX.N i = N4 ∧ RX.a1 i = a4 ∧ RX.b1 i = b4) ∧ (∀ (j : RX (Sh.T proofSh)), LpI proofSh (pPrf t) t l (AHeap.n h) j ∧ Kp [l] h (RX.g j) ∧ RX.N j = N4 ∧ RX.a1 j = a4 ∧ RX.b1 j = b4 ∧ (RX.n j = (0 : Nat) ∨ RX.b j = true) → Q (Value.agg (Array.mk [Value.int IntKind.i64 x1, Value.int IntKind.i64 x2, Value.slice (RX.A j) (RX.m j) (RX.c j)])) (RX.g j)) ∧ ∀ (v : Value) (h : AHeap), False → Q v h) = _) ?_
  refine ⟨_, _, A1, _, _, A2, _, _, A4, ⟨N4, a4, b4, N4, none, 0, 0, [], [], a4, b4, g4⟩, rfl, rfl, rfl, rfl, rfl, rfl, rfl, ⟨.start w4 k4.n (by omega) R4.le hg4, k4, rfl, rfl, rfl⟩, ?_, fun _ _ h => h.elim⟩
  rintro ⟨N, a1', b1', n, A, m, c, xs, ids, a5, b5, g⟩ ⟨I, k, rfl, rfl, rfl, hd⟩
  have R5 := I.fin hd
  dsimp only at *
  exact HQ _ _ ⟨I.sb.wf, k, x1, x2, xs, _, ids, a5, b5, rfl, I.sb.sn, I.sb.fr, ⟨hx1, hx2, I.okl⟩, I.rd, R1.chg R2 R4 R5⟩
end Go.Proofs.Ytanienlcebkijaa
end
section
namespace Go.Dat
open Go.Abs
theorem a3 (A : List ByteArray) (x y z : ByteArray) : Append.append (Append.append (Append.append (cat A) x) y) z = cat (A ++ [x, y, z]) := by
  rw [app1, app1, app1]; simp only [List.append_assoc]; rfl
theorem a2 (A : List ByteArray) (x y : ByteArray) : Append.append (Append.append (cat A) x) y = cat (A ++ [x, y]) := by
  rw [app1, app1]; simp only [List.append_assoc]; rfl
end Go.Dat
namespace Go.Proofs.Ytanienlcebkijaa
open Go.Abs Go.Dat
set_option maxRecDepth 100000
set_option maxHeartbeats 8000000
end Go.Proofs.Ytanienlcebkijaa
end
