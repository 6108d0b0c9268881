/- Lists that a reader reads: pure parsers, and lists that are built by append while the reader goes on. -/
import Derived.Test.YtdcijleeoihlfaaV8R2
import Derived.Test.YtdcijleeoihlfaaV8S1
namespace Go.Dat
open Go.Abs
structure Kp (J : List Nat) (g g' : AHeap) : Prop where
  n : g.n ≤ g'.n
  get : ∀ z o, z ∉ J → g.get z = some o → g'.get z = some o
theorem Kp.refl {J : List Nat} {g : AHeap} : Kp J g g := ⟨Nat.le_refl _, fun _ _ _ h => h⟩
theorem Kp.trans {J : List Nat} {a b c : AHeap} (x : Kp J a b) (y : Kp J b c) : Kp J a c := ⟨Nat.le_trans x.n y.n, fun z o hz h => y.get z o hz (x.get z o hz h)⟩
theorem Kp.widen {J K : List Nat} {a b : AHeap} (x : Kp J a b) (h : ∀ z ∈ J, z ∈ K) : Kp K a b := ⟨x.n, fun z o hz => x.get z o (fun e => hz (h z e))⟩
theorem _root_.Go.Dat.Out.kp {J : List Nat} {a b : AHeap} (x : Out J a b) : Kp J a b := ⟨x.shp.n, x.get⟩
theorem Kp.of_le {J : List Nat} {a b : AHeap} (x : a.Le b) : Kp J a b := ⟨x.n, fun z o _ h => x.get z o h⟩
theorem Kp.drop {J K : List Nat} {a b c : AHeap} (w : a.wf) (x : Kp J a b) (y : Kp K b c) (h : ∀ z ∈ K, z ∈ J ∨ a.n ≤ z) : Kp J a c :=
  ⟨Nat.le_trans x.n y.n, fun z o hz ho => y.get z o (fun e => by
    rcases h z e with h1 | h1
    · exact hz h1
    · have := w.lt ho; omega) (x.get z o hz ho)⟩
theorem Kp.le {J : List Nat} {a b : AHeap} (w : a.wf) (x : Kp J a b) (h : ∀ z ∈ J, a.n ≤ z) : a.Le b := ⟨x.n, fun z o ho => x.get z o (fun e => by have := h z e; have := w.lt ho; omega) ho⟩
def E0 (n : Nat) : AHeap := ⟨n, fun _ => none⟩
theorem E0.le {n : Nat} {h : AHeap} (x : n ≤ h.n) : (E0 n).Le h := ⟨x, fun _ _ e => by cases e⟩
theorem E0.wf {n : Nat} : (E0 n).wf := fun _ _ => rfl
theorem SoB.new {s : Sh} {n : Nat} {h : AHeap} (hw : h.wf) (hn : n ≤ h.n) : SoB s (E0 n) h none 0 0 [] [] := ⟨E0.le hn, hw, E0.wf, rfl, .nil, .inl ⟨rfl, rfl, rfl, rfl⟩⟩
theorem SoB.kp {s : Sh} {n0 : Nat} {h h' : AHeap} {a : Option Addr} {n c : Nat} {xs : List s.T} {ids J : List Nat} (B : SoB s (E0 n0) h a n c xs ids) (k : Kp J h h') (wf : h'.wf) (hJ : ∀ z ∈ ids, z ∉ J) : SoB s (E0 n0) h' a n c xs ids :=
  B.step (E0.le (Nat.le_trans B.le.n k.n)) wf k.n (fun z hz o => k.get z o (hJ z hz))
theorem Sn.kp {s : Sh} {h h' : AHeap} {xs : List s.T} {v : Value} {ids J : List Nat} (x : Sn h s xs v ids) (k : Kp J h h') (hJ : ∀ z ∈ ids, z ∉ J) : Sn h' s xs v ids := x.keep (fun z hz o => k.get z o (hJ z hz))
theorem SoB.app' {s : Sh} {n0 : Nat} {h : AHeap} {a : Option Addr} {n c : Nat} {xs : List s.T} {ids js : List Nat} {x : s.T} {cs : List Value} (B : SoB s (E0 n0) h a n c xs ids) (rn : s.rn h x cs js) (fj : Fresh n0 h.n js) (d : ∀ z ∈ ids, z ∉ js) :
    ∃ l h' ids', h.app (.slice a n c) [cs] s.cells = some (.slice (some ⟨l, 0, some s.cells⟩) (n + 1) 0, h') ∧ SoB s (E0 n0) h' (some ⟨l, 0, some s.cells⟩) (n + 1) 0 (xs ++ [x]) ids' ∧ Kp ids h h' ∧ h'.wf ∧ ∀ z ∈ ids', z = h.n ∨ z ∈ ids ∨ z ∈ js := by
  obtain ⟨l, h', ids', e, B', hn, hm, hk⟩ := B.app rn fj d
  exact ⟨l, h', ids', e, B', ⟨hn, hk⟩, B'.wf, hm⟩
theorem Rd.bind {α β : Type} {p : Option (α × Nat)} {q : α → Nat → Option (β × Nat)} {t : ByteArray} {b b1 b2 : Bool} {x : α} {y : β} {a1 a2 : Nat} (h1 : Rd p t b x a1 b1) (h2 : Rd (q x a1) t b1 y a2 b2) : Rd (p.bind fun z => q z.1 z.2) t b y a2 b2 := by
  refine ⟨fun e => h2.bad (h1.bad e), fun e1 e2 => ?_, fun e1 e2 => ?_, h2.le⟩
  · have hb : b1 = false := by
      cases hb : b1 with
      | false => rfl
      | true => rw [h2.bad hb] at e2; cases e2
    rw [h1.ok e1 hb]; exact h2.ok hb e2
  · cases hb : b1 with
    | true => rw [h1.no e1 hb]; rfl
    | false => rw [h1.ok e1 hb]; exact h2.no hb e2
theorem Rd.pure {α : Type} {t : ByteArray} {b : Bool} {x : α} {a : Nat} (ha : a ≤ t.size) : Rd (some (x, a)) t b x a b := ⟨fun e => e, fun _ _ => rfl, fun e1 e2 => absurd (e1.symm.trans e2) (by decide), ha⟩
def pRep {α : Type} (p : Nat → Option (α × Nat)) : Nat → Nat → List α → Option (List α × Nat)
  | 0, a, xs => some (xs, a)
  | n + 1, a, xs => (p a).bind fun z => pRep p n z.2 (xs ++ [z.1])
structure RepI {α : Type} (p : Nat → Option (α × Nat)) (t : ByteArray) (N a0 : Nat) (b0 : Bool) (n : Nat) (xs : List α) (a : Nat) (b : Bool) : Prop where
  bad : b0 = true → b = true
  ok : b0 = false → b = false → pRep p N a0 [] = pRep p n a xs
  no : b0 = false → b = true → pRep p N a0 [] = none
  le : a ≤ t.size
  len : xs.length + n = N
theorem RepI.start {α : Type} {p : Nat → Option (α × Nat)} {t : ByteArray} {N a0 : Nat} {b0 : Bool} (ha : a0 ≤ t.size) : RepI p t N a0 b0 N [] a0 b0 := ⟨fun e => e, fun _ _ => rfl, fun e1 e2 => absurd (e1.symm.trans e2) (by decide), ha, by simp⟩
theorem RepI.step {α : Type} {p : Nat → Option (α × Nat)} {t : ByteArray} {N a0 : Nat} {b0 : Bool} {n : Nat} {xs : List α} {a a' : Nat} {b' : Bool} {x : α} (I : RepI p t N a0 b0 (n + 1) xs a false) (h : Rd (p a) t false x a' b') : RepI p t N a0 b0 n (xs ++ [x]) a' b' := by
  refine ⟨fun e => absurd (I.bad e) (by decide), fun e1 e2 => ?_, fun e1 e2 => ?_, h.le, by have := I.len; simp; omega⟩
  · rw [I.ok e1 rfl, pRep, h.ok rfl e2]; rfl
  · rw [I.ok e1 rfl, pRep, h.no rfl e2]; rfl
theorem RepI.finish {α : Type} {p : Nat → Option (α × Nat)} {t : ByteArray} {N a0 : Nat} {b0 : Bool} {n : Nat} {xs : List α} {a : Nat} {b : Bool} (I : RepI p t N a0 b0 n xs a b) (h : n = 0 ∨ b = true) : Rd (pRep p N a0 []) t b0 xs a b := by
  refine ⟨I.bad, fun e1 e2 => ?_, I.no, I.le⟩
  rcases h with rfl | h
  · exact I.ok e1 e2
  · exact absurd (e2.symm.trans h) (by decide)
theorem pRep_enc {α : Type} {p : Nat → Option (α × Nat)} {t : ByteArray} {enc : α → ByteArray} {q : α → Prop} (hp : ∀ a x e, p a = some (x, e) → a ≤ e ∧ e ≤ t.size ∧ t.extract a e = enc x ∧ q x) : ∀ (n a : Nat) (xs ys : List α) (e : Nat), a ≤ t.size → pRep p n a xs = some (ys, e) → a ≤ e ∧ e ≤ t.size ∧ ∃ zs, ys = xs ++ zs ∧ zs.length = n ∧ t.extract a e = cat (zs.map enc) ∧ ∀ z ∈ zs, q z := by
  intro n
  induction n with
  | zero =>
    intro a xs ys e ha h
    simp only [pRep, Option.some.injEq, Prod.mk.injEq] at h
    obtain ⟨rfl, rfl⟩ := h
    refine ⟨Nat.le_refl _, ha, [], by simp, rfl, ?_, fun z hz => by simp at hz⟩
    apply ba_ext; simp [cat]
  | succ n ih =>
    intro a xs ys e ha h
    simp only [pRep] at h
    rw [Option.bind_eq_some_iff] at h
    obtain ⟨⟨x, e1⟩, h1, h2⟩ := h
    obtain ⟨q1, q2, q3, q4⟩ := hp a x e1 h1
    obtain ⟨r1, r2, zs, rfl, r4, r5, r6⟩ := ih e1 _ ys e q2 h2
    refine ⟨by omega, r2, x :: zs, by simp, by simp [r4], ?_, fun z hz => ?_⟩
    · rw [extract_split (b := e1) q1 r1, q3, r5]; rfl
    · rcases List.mem_cons.1 hz with rfl | hz
      · exact q4
      · exact r6 z hz
def pGrp (t : ByteArray) (a : Nat) : Option (groupSh.T × Nat) := (pWord t a).bind fun z => (pNum t z.2).bind fun y => some ((z.1, y.1), y.2)
def pTop (t : ByteArray) (a : Nat) : Option (topicSh.T × Nat) := (pWord t a).bind fun z1 => (pNum t z1.2).bind fun z2 => (pMany 20 t z2.2).bind fun z3 => (pRep (pWord t) z3.1 z3.2 []).bind fun z4 => (pMany 4 t z4.2).bind fun z5 => (pRep (pGrp t) z5.1 z5.2 []).bind fun z6 => some ((z1.1, z2.1, z4.1, z6.1), z6.2)
def pRp (t : ByteArray) (a : Nat) : Option (replySh.T × Nat) := (pNum t a).bind fun z1 => (pNum t z1.2).bind fun z2 => (pWord t z2.2).bind fun z3 => some ((z1.1, z2.1, z3.1), z3.2)
def pBrk (t : ByteArray) (a : Nat) : Option (brokerSh.T × Nat) := (pMany 4 t a).bind fun z1 => (pRep (pTop t) z1.1 z1.2 []).bind fun z2 => (pMany 9 t z2.2).bind fun z3 => (pRep (pRp t) z3.1 z3.2 []).bind fun z4 => some ((z2.1, z4.1), z4.2)
theorem Rd.grp {t : ByteArray} {a a1 a2 : Nat} {b b1 b2 : Bool} {s : ByteArray} {n : Int} (R1 : Rd (pWord t a) t b s a1 b1) (R2 : Rd (pNum t a1) t b1 n a2 b2) : Rd (pGrp t a) t b (s, n) a2 b2 :=
  R1.bind (q := fun s a1 => (pNum t a1).bind fun y => some ((s, y.1), y.2)) (R2.bind (q := fun n a2 => some ((s, n), a2)) (Rd.pure R2.le))
theorem Rd.rp {t : ByteArray} {a a1 a2 a3 : Nat} {b b1 b2 b3 : Bool} {c n : Int} {s : ByteArray} (R1 : Rd (pNum t a) t b c a1 b1) (R2 : Rd (pNum t a1) t b1 n a2 b2) (R3 : Rd (pWord t a2) t b2 s a3 b3) : Rd (pRp t a) t b (c, n, s) a3 b3 :=
  R1.bind (q := fun c a1 => (pNum t a1).bind fun z2 => (pWord t z2.2).bind fun z3 => some ((c, z2.1, z3.1), z3.2)) (R2.bind (q := fun n a2 => (pWord t a2).bind fun z3 => some ((c, n, z3.1), z3.2)) (R3.bind (q := fun s a3 => some ((c, n, s), a3)) (Rd.pure R3.le)))
theorem Rd.top {t : ByteArray} {a a1 a2 a3 a4 a5 a6 : Nat} {b b1 b2 b3 b4 b5 b6 : Bool} {nm : ByteArray} {bs : Int} {N3 N5 : Nat} {hs : List Sh.str.T} {gs : List groupSh.T} (R1 : Rd (pWord t a) t b nm a1 b1) (R2 : Rd (pNum t a1) t b1 bs a2 b2) (R3 : Rd (pMany 20 t a2) t b2 N3 a3 b3) (R4 : Rd (pRep (pWord t) N3 a3 []) t b3 hs a4 b4) (R5 : Rd (pMany 4 t a4) t b4 N5 a5 b5) (R6 : Rd (pRep (pGrp t) N5 a5 []) t b5 gs a6 b6) : Rd (pTop t a) t b (nm, bs, hs, gs) a6 b6 :=
  R1.bind (q := fun x1 e1 => (pNum t e1).bind fun z2 => (pMany 20 t z2.2).bind fun z3 => (pRep (pWord t) z3.1 z3.2 []).bind fun z4 => (pMany 4 t z4.2).bind fun z5 => (pRep (pGrp t) z5.1 z5.2 []).bind fun z6 => some ((x1, z2.1, z4.1, z6.1), z6.2))
    (R2.bind (q := fun x2 e2 => (pMany 20 t e2).bind fun z3 => (pRep (pWord t) z3.1 z3.2 []).bind fun z4 => (pMany 4 t z4.2).bind fun z5 => (pRep (pGrp t) z5.1 z5.2 []).bind fun z6 => some ((nm, x2, z4.1, z6.1), z6.2))
    (R3.bind (q := fun x3 e3 => (pRep (pWord t) x3 e3 []).bind fun z4 => (pMany 4 t z4.2).bind fun z5 => (pRep (pGrp t) z5.1 z5.2 []).bind fun z6 => some ((nm, bs, z4.1, z6.1), z6.2))
    (R4.bind (q := fun x4 e4 => (pMany 4 t e4).bind fun z5 => (pRep (pGrp t) z5.1 z5.2 []).bind fun z6 => some ((nm, bs, x4, z6.1), z6.2))
    (R5.bind (q := fun x5 e5 => (pRep (pGrp t) x5 e5 []).bind fun z6 => some ((nm, bs, hs, z6.1), z6.2))
    (R6.bind (q := fun x6 e6 => some ((nm, bs, hs, x6), e6)) (Rd.pure R6.le))))))
theorem Rd.brk {t : ByteArray} {a a3 a4 a5 a6 : Nat} {b b3 b4 b5 b6 : Bool} {N3 N5 : Nat} {ts : List topicSh.T} {rs : List replySh.T} (R3 : Rd (pMany 4 t a) t b N3 a3 b3) (R4 : Rd (pRep (pTop t) N3 a3 []) t b3 ts a4 b4) (R5 : Rd (pMany 9 t a4) t b4 N5 a5 b5) (R6 : Rd (pRep (pRp t) N5 a5 []) t b5 rs a6 b6) : Rd (pBrk t a) t b (ts, rs) a6 b6 :=
  R3.bind (q := fun x3 e3 => (pRep (pTop t) x3 e3 []).bind fun z4 => (pMany 9 t z4.2).bind fun z5 => (pRep (pRp t) z5.1 z5.2 []).bind fun z6 => some ((z4.1, z6.1), z6.2))
    (R4.bind (q := fun x4 e4 => (pMany 9 t e4).bind fun z5 => (pRep (pRp t) z5.1 z5.2 []).bind fun z6 => some ((x4, z6.1), z6.2))
    (R5.bind (q := fun x5 e5 => (pRep (pRp t) x5 e5 []).bind fun z6 => some ((ts, z6.1), z6.2))
    (R6.bind (q := fun x6 e6 => some ((ts, x6), e6)) (Rd.pure R6.le))))
theorem pGrp_enc {t : ByteArray} {a e : Nat} {x : groupSh.T} (h : pGrp t a = some (x, e)) : a ≤ e ∧ e ≤ t.size ∧ t.extract a e = grpB x := by
  unfold pGrp at h
  simp only [Option.bind_eq_some_iff] at h
  obtain ⟨⟨s, e1⟩, h1, ⟨n, e2⟩, h2, h3⟩ := h
  cases h3
  obtain ⟨q1, q2, q3, _⟩ := pWord_enc h1
  obtain ⟨r1, r2, r3, _⟩ := pNum_enc h2
  dsimp only at *
  refine ⟨by omega, r2, ?_⟩
  rw [extract_split (b := e1) (by omega) (by omega), q3, r3]
  show vt s ++ nb n = vt s ++ (nb n ++ ⟨#[]⟩)
  rw [ba_append_nil]
theorem pRp_enc {t : ByteArray} {a e : Nat} {x : replySh.T} (h : pRp t a = some (x, e)) : a ≤ e ∧ e ≤ t.size ∧ t.extract a e = repB x := by
  unfold pRp at h
  simp only [Option.bind_eq_some_iff] at h
  obtain ⟨⟨c, e1⟩, h1, ⟨n, e2⟩, h2, ⟨s, e3⟩, h3, h4⟩ := h
  cases h4
  obtain ⟨q1, q2, q3, _⟩ := pNum_enc h1
  obtain ⟨r1, r2, r3, _⟩ := pNum_enc h2
  obtain ⟨s1, s2, s3, _⟩ := pWord_enc h3
  dsimp only at *
  refine ⟨by omega, s2, ?_⟩
  rw [extract_split (b := e1) (by omega) (by omega), extract_split (a := e1) (b := e2) (by omega) (by omega), q3, r3, s3]
  show nb c ++ (nb n ++ vt s) = nb c ++ (nb n ++ (vt s ++ ⟨#[]⟩))
  rw [ba_append_nil]
theorem pTop_enc {t : ByteArray} {a e : Nat} {x : topicSh.T} (h : pTop t a = some (x, e)) : a ≤ e ∧ e ≤ t.size ∧ t.extract a e = topB x := by
  unfold pTop at h
  simp only [Option.bind_eq_some_iff] at h
  obtain ⟨⟨nm, e1⟩, h1, ⟨b, e2⟩, h2, ⟨m, e3⟩, h3, ⟨hs, e4⟩, h4, ⟨g, e5⟩, h5, ⟨gs, e6⟩, h6, h7⟩ := h
  cases h7
  obtain ⟨q1, q2, q3, _⟩ := pWord_enc h1
  obtain ⟨r1, r2, r3, _⟩ := pNum_enc h2
  obtain ⟨s1, s2, s3, _⟩ := pMany_enc h3
  dsimp only at *
  obtain ⟨u1, u2, zs, rfl, u4, u5, _⟩ := pRep_enc (enc := vt) (q := fun _ => True) (fun a x e h => ⟨by have := (pWord_enc h).1; omega, (pWord_enc h).2.1, (pWord_enc h).2.2.1, trivial⟩) _ _ _ _ _ s2 h4
  obtain ⟨v1, v2, v3, _⟩ := pMany_enc h5
  obtain ⟨w1, w2, ys, rfl, w4, w5, _⟩ := pRep_enc (enc := grpB) (q := fun _ => True) (fun a x e h => ⟨(pGrp_enc h).1, (pGrp_enc h).2.1, (pGrp_enc h).2.2, trivial⟩) _ _ _ _ _ v2 h6
  refine ⟨by omega, w2, ?_⟩
  rw [extract_split (b := e1) (by omega) (by omega), extract_split (a := e1) (b := e2) (by omega) (by omega), extract_split (a := e2) (b := e3) (by omega) (by omega), extract_split (a := e3) (b := e4) (by omega) (by omega), extract_split (a := e4) (b := e5) (by omega) (by omega), q3, r3, s3, u5, v3, w5]
  subst u4
  subst w4
  unfold topB topPre2 topPre
  dsimp only
  simp only [List.take_length, cat_append]
  show _ = ((vt nm ++ (nb b ++ (nb (hs.length : Int) ++ ⟨#[]⟩))) ++ cat (hs.map vt)) ++ cat [nb (gs.length : Int)] ++ cat (gs.map grpB)
  simp only [cat_one, ba_assoc, ba_append_nil]
theorem pBrk_enc {t : ByteArray} {a e : Nat} {x : brokerSh.T} (h : pBrk t a = some (x, e)) : a ≤ e ∧ e ≤ t.size ∧ t.extract a e = brkB x.1 x.2 ∧ x.1.length ≤ 4 ∧ x.2.length ≤ 9 ∧ a < e := by
  unfold pBrk at h
  simp only [Option.bind_eq_some_iff] at h
  obtain ⟨⟨m, e3⟩, h3, ⟨ts, e4⟩, h4, ⟨g, e5⟩, h5, ⟨rs, e6⟩, h6, h7⟩ := h
  cases h7
  obtain ⟨s1, s2, s3, s4⟩ := pMany_enc h3
  dsimp only at *
  obtain ⟨u1, u2, zs, rfl, u4, u5, _⟩ := pRep_enc (enc := topB) (q := fun _ => True) (fun a x e h => ⟨(pTop_enc h).1, (pTop_enc h).2.1, (pTop_enc h).2.2, trivial⟩) _ _ _ _ _ s2 h4
  obtain ⟨v1, v2, v3, v4⟩ := pMany_enc h5
  obtain ⟨w1, w2, ys, rfl, w4, w5, _⟩ := pRep_enc (enc := repB) (q := fun _ => True) (fun a x e h => ⟨(pRp_enc h).1, (pRp_enc h).2.1, (pRp_enc h).2.2, trivial⟩) _ _ _ _ _ v2 h6
  refine ⟨by omega, w2, ?_, by show ts.length ≤ 4; omega, by show rs.length ≤ 9; omega, by omega⟩
  rw [extract_split (b := e3) (by omega) (by omega), extract_split (a := e3) (b := e4) (by omega) (by omega), extract_split (a := e4) (b := e5) (by omega) (by omega), s3, u5, v3, w5]
  subst u4
  subst w4
  unfold brkB brkPre2 brkPre
  simp only [List.take_length, cat_append, cat_one, ba_assoc]
end Go.Dat
