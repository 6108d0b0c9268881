/- Says: their bytes and how they are read. -/
import Derived.Test.YtdcijleeoihlfaaV9T2
import Derived.Test.YtdcijleeoihlfaaV9R4
namespace Go.Dat
open Go.Abs
def prfPre (p : proofSh.T) (j : Nat) : List ByteArray := [nb p.1, nb p.2.1, vt p.2.2.1, nb p.2.2.2.length] ++ ((show List Int from p.2.2.2).take j).map nb
def prfB (p : proofSh.T) : ByteArray := cat (prfPre p p.2.2.2.length)
def chgPre (c : changeSh.T) (j : Nat) : List ByteArray := [nb c.1, nb c.2.1, nb c.2.2.length] ++ ((show List proofSh.T from c.2.2).take j).map prfB
def chgB (c : changeSh.T) : ByteArray := cat (chgPre c c.2.2.length)
def sayPre (k f v q : Int) (op : ByteArray) (cs : List changeSh.T) (j : Nat) : List ByteArray := [nb k, nb f, nb v, nb q, vt op, nb cs.length] ++ (cs.take j).map chgB
def sayB (k f v q : Int) (op : ByteArray) (cs : List changeSh.T) : ByteArray := cat (sayPre k f v q op cs cs.length)
def pPrf (t : ByteArray) (a : Nat) : Option (proofSh.T × Nat) := (pNum t a).bind fun z1 => (pNum t z1.2).bind fun z2 => (pWord t z2.2).bind fun z3 => (pMany 4 t z3.2).bind fun z4 => (pRep (pNum t) z4.1 z4.2 []).bind fun z5 => some ((z1.1, z2.1, z3.1, z5.1), z5.2)
def pChg (t : ByteArray) (a : Nat) : Option (changeSh.T × Nat) := (pNum t a).bind fun z1 => (pNum t z1.2).bind fun z2 => (pMany 6 t z2.2).bind fun z3 => (pRep (pPrf t) z3.1 z3.2 []).bind fun z4 => some ((z1.1, z2.1, z4.1), z4.2)
def pSay (t : ByteArray) (a : Nat) : Option (saySh.T × Nat) := (pNum t a).bind fun z1 => (pNum t z1.2).bind fun z2 => (pNum t z2.2).bind fun z3 => (pNum t z3.2).bind fun z4 => (pWord t z4.2).bind fun z5 => (pMany 4 t z5.2).bind fun z6 => (pRep (pChg t) z6.1 z6.2 []).bind fun z7 => some ((z1.1, z2.1, z3.1, z4.1, z5.1, z7.1), z7.2)
theorem Rd.prf {t : ByteArray} {a a1 a2 a3 a4 a5 : Nat} {b b1 b2 b3 b4 b5 : Bool} {v q : Int} {op : ByteArray} {N : Nat} {l : List Sh.int.T} (R1 : Rd (pNum t a) t b v a1 b1) (R2 : Rd (pNum t a1) t b1 q a2 b2) (R3 : Rd (pWord t a2) t b2 op a3 b3) (R4 : Rd (pMany 4 t a3) t b3 N a4 b4) (R5 : Rd (pRep (pNum t) N a4 []) t b4 l a5 b5) : Rd (pPrf t a) t b (v, q, op, l) a5 b5 :=
  R1.bind (q := fun x1 e1 => (pNum t e1).bind fun z2 => (pWord t z2.2).bind fun z3 => (pMany 4 t z3.2).bind fun z4 => (pRep (pNum t) z4.1 z4.2 []).bind fun z5 => some ((x1, z2.1, z3.1, z5.1), z5.2))
    (R2.bind (q := fun x2 e2 => (pWord t e2).bind fun z3 => (pMany 4 t z3.2).bind fun z4 => (pRep (pNum t) z4.1 z4.2 []).bind fun z5 => some ((v, x2, z3.1, z5.1), z5.2))
    (R3.bind (q := fun x3 e3 => (pMany 4 t e3).bind fun z4 => (pRep (pNum t) z4.1 z4.2 []).bind fun z5 => some ((v, q, x3, z5.1), z5.2))
    (R4.bind (q := fun x4 e4 => (pRep (pNum t) x4 e4 []).bind fun z5 => some ((v, q, op, z5.1), z5.2))
    (R5.bind (q := fun x5 e5 => some ((v, q, op, x5), e5)) (Rd.pure R5.le)))))
theorem Rd.chg {t : ByteArray} {a a1 a2 a3 a4 : Nat} {b b1 b2 b3 b4 : Bool} {f v : Int} {N : Nat} {l : List proofSh.T} (R1 : Rd (pNum t a) t b f a1 b1) (R2 : Rd (pNum t a1) t b1 v a2 b2) (R3 : Rd (pMany 6 t a2) t b2 N a3 b3) (R4 : Rd (pRep (pPrf t) N a3 []) t b3 l a4 b4) : Rd (pChg t a) t b (f, v, l) a4 b4 :=
  R1.bind (q := fun x1 e1 => (pNum t e1).bind fun z2 => (pMany 6 t z2.2).bind fun z3 => (pRep (pPrf t) z3.1 z3.2 []).bind fun z4 => some ((x1, z2.1, z4.1), z4.2))
    (R2.bind (q := fun x2 e2 => (pMany 6 t e2).bind fun z3 => (pRep (pPrf t) z3.1 z3.2 []).bind fun z4 => some ((f, x2, z4.1), z4.2))
    (R3.bind (q := fun x3 e3 => (pRep (pPrf t) x3 e3 []).bind fun z4 => some ((f, v, z4.1), z4.2))
    (R4.bind (q := fun x4 e4 => some ((f, v, x4), e4)) (Rd.pure R4.le))))
theorem Rd.say {t : ByteArray} {a a1 a2 a3 a4 a5 a6 a7 : Nat} {b b1 b2 b3 b4 b5 b6 b7 : Bool} {k f v q : Int} {op : ByteArray} {N : Nat} {l : List changeSh.T} (R1 : Rd (pNum t a) t b k a1 b1) (R2 : Rd (pNum t a1) t b1 f a2 b2) (R3 : Rd (pNum t a2) t b2 v a3 b3) (R4 : Rd (pNum t a3) t b3 q a4 b4) (R5 : Rd (pWord t a4) t b4 op a5 b5) (R6 : Rd (pMany 4 t a5) t b5 N a6 b6) (R7 : Rd (pRep (pChg t) N a6 []) t b6 l a7 b7) : Rd (pSay t a) t b (k, f, v, q, op, l) a7 b7 :=
  R1.bind (q := fun x1 e1 => (pNum t e1).bind fun z2 => (pNum t z2.2).bind fun z3 => (pNum t z3.2).bind fun z4 => (pWord t z4.2).bind fun z5 => (pMany 4 t z5.2).bind fun z6 => (pRep (pChg t) z6.1 z6.2 []).bind fun z7 => some ((x1, z2.1, z3.1, z4.1, z5.1, z7.1), z7.2))
    (R2.bind (q := fun x2 e2 => (pNum t e2).bind fun z3 => (pNum t z3.2).bind fun z4 => (pWord t z4.2).bind fun z5 => (pMany 4 t z5.2).bind fun z6 => (pRep (pChg t) z6.1 z6.2 []).bind fun z7 => some ((k, x2, z3.1, z4.1, z5.1, z7.1), z7.2))
    (R3.bind (q := fun x3 e3 => (pNum t e3).bind fun z4 => (pWord t z4.2).bind fun z5 => (pMany 4 t z5.2).bind fun z6 => (pRep (pChg t) z6.1 z6.2 []).bind fun z7 => some ((k, f, x3, z4.1, z5.1, z7.1), z7.2))
    (R4.bind (q := fun x4 e4 => (pWord t e4).bind fun z5 => (pMany 4 t z5.2).bind fun z6 => (pRep (pChg t) z6.1 z6.2 []).bind fun z7 => some ((k, f, v, x4, z5.1, z7.1), z7.2))
    (R5.bind (q := fun x5 e5 => (pMany 4 t e5).bind fun z6 => (pRep (pChg t) z6.1 z6.2 []).bind fun z7 => some ((k, f, v, q, x5, z7.1), z7.2))
    (R6.bind (q := fun x6 e6 => (pRep (pChg t) x6 e6 []).bind fun z7 => some ((k, f, v, q, op, z7.1), z7.2))
    (R7.bind (q := fun x7 e7 => some ((k, f, v, q, op, x7), e7)) (Rd.pure R7.le)))))))
theorem pPrf_enc {t : ByteArray} {a e : Nat} {x : proofSh.T} (h : pPrf t a = some (x, e)) : a ≤ e ∧ e ≤ t.size ∧ t.extract a e = prfB x := by
  unfold pPrf at h
  simp only [Option.bind_eq_some_iff] at h
  obtain ⟨⟨v, e1⟩, h1, ⟨q, e2⟩, h2, ⟨op, e3⟩, h3, ⟨m, e4⟩, h4, ⟨l, e5⟩, h5, h6⟩ := h
  cases h6
  obtain ⟨q1, q2, q3, _⟩ := pNum_enc h1
  obtain ⟨r1, r2, r3, _⟩ := pNum_enc h2
  obtain ⟨s1, s2, s3, _⟩ := pWord_enc h3
  obtain ⟨v1, v2, v3, _⟩ := pMany_enc h4
  dsimp only at *
  obtain ⟨w1, w2, ys, rfl, w4, w5, _⟩ := pRep_enc (enc := nb) (q := fun _ => True) (fun a x e h => ⟨by have := (pNum_enc h).1; omega, (pNum_enc h).2.1, (pNum_enc h).2.2.1, trivial⟩) _ _ _ _ _ v2 h5
  refine ⟨by omega, w2, ?_⟩
  rw [extract_split (b := e1) (by omega) (by omega), extract_split (a := e1) (b := e2) (by omega) (by omega), extract_split (a := e2) (b := e3) (by omega) (by omega), extract_split (a := e3) (b := e4) (by omega) (by omega), q3, r3, s3, v3, w5]
  subst w4
  show _ = cat ([nb v, nb q, vt op, nb (l.length : Int)] ++ (l.take l.length).map nb)
  simp only [List.take_length, cat_append]
  show _ = (nb v ++ (nb q ++ (vt op ++ (nb (l.length : Int) ++ ⟨#[]⟩)))) ++ cat (l.map nb)
  simp only [ba_assoc, ba_append_nil]
theorem pChg_enc {t : ByteArray} {a e : Nat} {x : changeSh.T} (h : pChg t a = some (x, e)) : a ≤ e ∧ e ≤ t.size ∧ t.extract a e = chgB x := by
  unfold pChg at h
  simp only [Option.bind_eq_some_iff] at h
  obtain ⟨⟨v, e1⟩, h1, ⟨q, e2⟩, h2, ⟨m, e4⟩, h4, ⟨l, e5⟩, h5, h6⟩ := h
  cases h6
  obtain ⟨q1, q2, q3, _⟩ := pNum_enc h1
  obtain ⟨r1, r2, r3, _⟩ := pNum_enc h2
  obtain ⟨v1, v2, v3, _⟩ := pMany_enc h4
  dsimp only at *
  obtain ⟨w1, w2, ys, rfl, w4, w5, _⟩ := pRep_enc (enc := prfB) (q := fun _ => True) (fun a x e h => ⟨(pPrf_enc h).1, (pPrf_enc h).2.1, (pPrf_enc h).2.2, trivial⟩) _ _ _ _ _ v2 h5
  refine ⟨by omega, w2, ?_⟩
  rw [extract_split (b := e1) (by omega) (by omega), extract_split (a := e1) (b := e2) (by omega) (by omega), extract_split (a := e2) (b := e4) (by omega) (by omega), q3, r3, v3, w5]
  subst w4
  show _ = cat ([nb v, nb q, nb (l.length : Int)] ++ (l.take l.length).map prfB)
  simp only [List.take_length, cat_append]
  show _ = (nb v ++ (nb q ++ (nb (l.length : Int) ++ ⟨#[]⟩))) ++ cat (l.map prfB)
  simp only [ba_assoc, ba_append_nil]
theorem pSay_enc {t : ByteArray} {a e : Nat} {k f v q : Int} {op : ByteArray} {cs : List changeSh.T} (h : pSay t a = some ((k, f, v, q, op, cs), e)) : a < e ∧ e ≤ t.size ∧ t.extract a e = sayB k f v q op cs := by
  unfold pSay at h
  simp only [Option.bind_eq_some_iff] at h
  obtain ⟨⟨z1, e1⟩, h1, ⟨z2, e2⟩, h2, ⟨z3, e3⟩, h3, ⟨z4, e4⟩, h4, ⟨z5, e5⟩, h5, ⟨m, e6⟩, h6, ⟨l, e7⟩, h7, h8⟩ := h
  cases h8
  obtain ⟨q1, q2, q3, _⟩ := pNum_enc h1
  obtain ⟨r1, r2, r3, _⟩ := pNum_enc h2
  obtain ⟨s1, s2, s3, _⟩ := pNum_enc h3
  obtain ⟨t1, t2, t3, _⟩ := pNum_enc h4
  obtain ⟨u1, u2, u3, _⟩ := pWord_enc h5
  obtain ⟨v1, v2, v3, _⟩ := pMany_enc h6
  dsimp only at *
  obtain ⟨w1, w2, ys, rfl, w4, w5, _⟩ := pRep_enc (enc := chgB) (q := fun _ => True) (fun a x e h => ⟨(pChg_enc h).1, (pChg_enc h).2.1, (pChg_enc h).2.2, trivial⟩) _ _ _ _ _ v2 h7
  refine ⟨by omega, w2, ?_⟩
  rw [extract_split (b := e1) (by omega) (by omega), extract_split (a := e1) (b := e2) (by omega) (by omega), extract_split (a := e2) (b := e3) (by omega) (by omega), extract_split (a := e3) (b := e4) (by omega) (by omega), extract_split (a := e4) (b := e5) (by omega) (by omega), extract_split (a := e5) (b := e6) (by omega) (by omega), q3, r3, s3, t3, u3, v3, w5]
  subst w4
  show _ = cat ([nb z1, nb z2, nb z3, nb z4, vt z5, nb (l.length : Int)] ++ (l.take l.length).map chgB)
  simp only [List.take_length, cat_append]
  show _ = (nb z1 ++ (nb z2 ++ (nb z3 ++ (nb z4 ++ (vt z5 ++ (nb (l.length : Int) ++ ⟨#[]⟩)))))) ++ cat (l.map chgB)
  simp only [ba_assoc, ba_append_nil]
theorem prfPre_size {v q : Int} {op : ByteArray} {l : List Sh.int.T} (H : PrfOk v q op l) (j : Nat) : (cat (prfPre (v, q, op, l) j)).size ≤ 200 := by
  obtain ⟨hv, hq, ho, hl⟩ := H
  have hl4 := hl.len
  have h1 := nb_sz hv (by omega) (by omega)
  have h2 := nb_sz hq (by omega) (by omega)
  have h3 := vt_size' (t := op) (by omega)
  have h4 := nb_size (n := (l.length : Int)) (by omega)
  have h5 := cat_map_take (f := nb) (m := 10) (xs := (l : List Int)) (fun x hx => nb_sz (hl.1.mem hx) (by omega) (by omega)) j
  show (cat ([nb v, nb q, vt op, nb (l.length : Int)] ++ ((l : List Int).take j).map nb)).size ≤ 200
  rw [cat_size_app]
  simp only [cat_size_cons, cat_size_nil]
  omega
theorem chgPre_size {f v : Int} {l : List proofSh.T} (H : ChgOk f v l) (j : Nat) : (cat (chgPre (f, v, l) j)).size ≤ 1230 := by
  have hl4 := H.len
  obtain ⟨hf, hv, hl⟩ := H
  have h1 := nb_sz hf (by omega) (by omega)
  have h2 := nb_sz hv (by omega) (by omega)
  have h4 := nb_size (n := (l.length : Int)) (by omega)
  have h5 := cat_map_take (f := prfB) (m := 200) (xs := l) (fun x hx => prfPre_size (Asc.mem hl hx).1 _) j
  show (cat ([nb f, nb v, nb (l.length : Int)] ++ (l.take j).map prfB)).size ≤ 1230
  rw [cat_size_app]
  simp only [cat_size_cons, cat_size_nil]
  omega
theorem SayOk.nums {k f v q : Int} {op : ByteArray} {cs : List changeSh.T} (H : SayOk k f v q op cs) : InR 1 5 k ∧ InR 0 3 f ∧ InR 0 7 v ∧ InR 0 6 q ∧ op.size ≤ 120 ∧ cs.length ≤ 4 := by
  have hl := ChgsOk.len H.2.2.1
  unfold SayOk InR at *
  omega
theorem sayPre_size {k f v q : Int} {op : ByteArray} {cs : List changeSh.T} (H : SayOk k f v q op cs) (j : Nat) : (cat (sayPre k f v q op cs j)).size ≤ 5200 := by
  obtain ⟨hk, hf, hv, hq, ho, hl⟩ := H.nums
  have h1 := nb_sz hk (by omega) (by omega)
  have h2 := nb_sz hf (by omega) (by omega)
  have h3 := nb_sz hv (by omega) (by omega)
  have h4 := nb_sz hq (by omega) (by omega)
  have h5 := vt_size' (t := op) (by omega)
  have h6 := nb_size (n := (cs.length : Int)) (by omega)
  have h7 := cat_map_take (f := chgB) (m := 1230) (xs := cs) (fun x hx => chgPre_size (Asc.mem H.2.2.1 hx).1 _) j
  show (cat ([nb k, nb f, nb v, nb q, vt op, nb (cs.length : Int)] ++ (cs.take j).map chgB)).size ≤ 5200
  rw [cat_size_app]
  simp only [cat_size_cons, cat_size_nil]
  omega
end Go.Dat
