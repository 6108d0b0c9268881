/- R3, Y0, T1, T2, A32, V0, V3, U1, U2, W0, W1, W3, W4, U3, U4, U5. -/
import Derived.Test.YtanienlcebkijaaV15R2
import Derived.Test.YtanienlcebkijaaV15S1
import Derived.Test.YtanienlcebkijaaV15G1
import Derived.Test.YtanienlcebkijaaV15C2
section
namespace Go.Dat
open Go.Abs
structure Kp (J : List Nat) (g g' : AHeap) : Prop where
  n : g.n ≤ g'.n
  get : ∀ z o, z ∉ J → g.get z = some o → g'.get z = some o
theorem Kp.refl {J : List Nat} {g : AHeap} : Kp J g g := ⟨Nat.le_refl _, fun _ _ _ h => h⟩
theorem Kp.trans {J : List Nat} {a b c : AHeap} (x : Kp J a b) (y : Kp J b c) : Kp J a c := ⟨Nat.le_trans x.n y.n, fun z o hz h => y.get z o hz (x.get z o hz h)⟩
theorem Kp.widen {J K : List Nat} {a b : AHeap} (x : Kp J a b) (h : ∀ z ∈ J, z ∈ K) : Kp K a b := ⟨x.n, fun z o hz => x.get z o (fun e => hz (h z e))⟩
theorem _root_.Go.Dat.Out.kp {J : List Nat} {a b : AHeap} (x : Out J a b) : Kp J a b := ⟨x.shp.n, x.get⟩
theorem Kp.of_le {J : List Nat} {a b : AHeap} (x : a.Le b) : Kp J a b := ⟨x.n, fun z o _ h => x.get z o h⟩
theorem Kp.drop {J K : List Nat} {a b c : AHeap} (w : a.wf) (x : Kp J a b) (y : Kp K b c) (h : ∀ z ∈ K, z ∈ J ∨ a.n ≤ z) : Kp J a c :=
  ⟨Nat.le_trans x.n y.n, fun z o hz ho => y.get z o (fun e => by
    rcases h z e with h1 | h1
    · exact hz h1
    · have := w.lt ho; omega) (x.get z o hz ho)⟩
theorem Kp.le {J : List Nat} {a b : AHeap} (w : a.wf) (x : Kp J a b) (h : ∀ z ∈ J, a.n ≤ z) : a.Le b := ⟨x.n, fun z o ho => x.get z o (fun e => by have := h z e; have := w.lt ho; omega) ho⟩
def E0 (n : Nat) : AHeap := ⟨n, fun _ => none⟩
theorem E0.le {n : Nat} {h : AHeap} (x : n ≤ h.n) : (E0 n).Le h := ⟨x, fun _ _ e => by cases e⟩
theorem E0.wf {n : Nat} : (E0 n).wf := fun _ _ => rfl
theorem SoB.new {s : Sh} {n : Nat} {h : AHeap} (hw : h.wf) (hn : n ≤ h.n) : SoB s (E0 n) h none 0 0 [] [] := ⟨E0.le hn, hw, E0.wf, rfl, .nil, .inl ⟨rfl, rfl, rfl, rfl⟩⟩
theorem SoB.kp {s : Sh} {n0 : Nat} {h h' : AHeap} {a : Option Addr} {n c : Nat} {xs : List s.T} {ids J : List Nat} (B : SoB s (E0 n0) h a n c xs ids) (k : Kp J h h') (wf : h'.wf) (hJ : ∀ z ∈ ids, z ∉ J) : SoB s (E0 n0) h' a n c xs ids :=
  B.step (E0.le (Nat.le_trans B.le.n k.n)) wf k.n (fun z hz o => k.get z o (hJ z hz))
theorem Sn.kp {s : Sh} {h h' : AHeap} {xs : List s.T} {v : Value} {ids J : List Nat} (x : Sn h s xs v ids) (k : Kp J h h') (hJ : ∀ z ∈ ids, z ∉ J) : Sn h' s xs v ids := x.keep (fun z hz o => k.get z o (hJ z hz))
theorem SoB.app' {s : Sh} {n0 : Nat} {h : AHeap} {a : Option Addr} {n c : Nat} {xs : List s.T} {ids js : List Nat} {x : s.T} {cs : List Value} (B : SoB s (E0 n0) h a n c xs ids) (rn : s.rn h x cs js) (fj : Fresh n0 h.n js) (d : ∀ z ∈ ids, z ∉ js) :
    ∃ l h' ids', h.app (.slice a n c) [cs] s.cells = some (.slice (some ⟨l, 0, some s.cells⟩) (n + 1) 0, h') ∧ SoB s (E0 n0) h' (some ⟨l, 0, some s.cells⟩) (n + 1) 0 (xs ++ [x]) ids' ∧ Kp ids h h' ∧ h'.wf ∧ ∀ z ∈ ids', z = h.n ∨ z ∈ ids ∨ z ∈ js := by
  obtain ⟨l, h', ids', e, B', hn, hm, hk⟩ := B.app rn fj d
  exact ⟨l, h', ids', e, B', ⟨hn, hk⟩, B'.wf, hm⟩
theorem Rd.bind {α β : Type} {p : Option (α × Nat)} {q : α → Nat → Option (β × Nat)} {t : ByteArray} {b b1 b2 : Bool} {x : α} {y : β} {a1 a2 : Nat} (h1 : Rd p t b x a1 b1) (h2 : Rd (q x a1) t b1 y a2 b2) : Rd (p.bind fun z => q z.1 z.2) t b y a2 b2 := by
  refine ⟨fun e => h2.bad (h1.bad e), fun e1 e2 => ?_, fun e1 e2 => ?_, h2.le⟩
  · have hb : b1 = false := by
      cases hb : b1 with
      | false => rfl
      | true => rw [h2.bad hb] at e2; cases e2
    rw [h1.ok e1 hb]; exact h2.ok hb e2
  · cases hb : b1 with
    | true => rw [h1.no e1 hb]; rfl
    | false => rw [h1.ok e1 hb]; exact h2.no hb e2
theorem Rd.pure {α : Type} {t : ByteArray} {b : Bool} {x : α} {a : Nat} (ha : a ≤ t.size) : Rd (some (x, a)) t b x a b := ⟨fun e => e, fun _ _ => rfl, fun e1 e2 => absurd (e1.symm.trans e2) (by decide), ha⟩
def pRep {α : Type} (p : Nat → Option (α × Nat)) : Nat → Nat → List α → Option (List α × Nat)
  | 0, a, xs => some (xs, a)
  | n + 1, a, xs => (p a).bind fun z => pRep p n z.2 (xs ++ [z.1])
structure RepI {α : Type} (p : Nat → Option (α × Nat)) (t : ByteArray) (N a0 : Nat) (b0 : Bool) (n : Nat) (xs : List α) (a : Nat) (b : Bool) : Prop where
  bad : b0 = true → b = true
  ok : b0 = false → b = false → pRep p N a0 [] = pRep p n a xs
  no : b0 = false → b = true → pRep p N a0 [] = none
  le : a ≤ t.size
  len : xs.length + n = N
theorem RepI.start {α : Type} {p : Nat → Option (α × Nat)} {t : ByteArray} {N a0 : Nat} {b0 : Bool} (ha : a0 ≤ t.size) : RepI p t N a0 b0 N [] a0 b0 := ⟨fun e => e, fun _ _ => rfl, fun e1 e2 => absurd (e1.symm.trans e2) (by decide), ha, by simp⟩
theorem RepI.step {α : Type} {p : Nat → Option (α × Nat)} {t : ByteArray} {N a0 : Nat} {b0 : Bool} {n : Nat} {xs : List α} {a a' : Nat} {b' : Bool} {x : α} (I : RepI p t N a0 b0 (n + 1) xs a false) (h : Rd (p a) t false x a' b') : RepI p t N a0 b0 n (xs ++ [x]) a' b' := by
  refine ⟨fun e => absurd (I.bad e) (by decide), fun e1 e2 => ?_, fun e1 e2 => ?_, h.le, by have := I.len; simp; omega⟩
  · rw [I.ok e1 rfl, pRep, h.ok rfl e2]; rfl
  · rw [I.ok e1 rfl, pRep, h.no rfl e2]; rfl
def pGrp (t : ByteArray) (a : Nat) : Option (groupSh.T × Nat) := (pWord t a).bind fun z => (pNum t z.2).bind fun y => some ((z.1, y.1), y.2)
def pTop (t : ByteArray) (a : Nat) : Option (topicSh.T × Nat) := (pWord t a).bind fun z1 => (pNum t z1.2).bind fun z2 => (pMany 20 t z2.2).bind fun z3 => (pRep (pWord t) z3.1 z3.2 []).bind fun z4 => (pMany 4 t z4.2).bind fun z5 => (pRep (pGrp t) z5.1 z5.2 []).bind fun z6 => some ((z1.1, z2.1, z4.1, z6.1), z6.2)
def pRp (t : ByteArray) (a : Nat) : Option (replySh.T × Nat) := (pNum t a).bind fun z1 => (pNum t z1.2).bind fun z2 => (pWord t z2.2).bind fun z3 => some ((z1.1, z2.1, z3.1), z3.2)
theorem Rd.grp {t : ByteArray} {a a1 a2 : Nat} {b b1 b2 : Bool} {s : ByteArray} {n : Int} (R1 : Rd (pWord t a) t b s a1 b1) (R2 : Rd (pNum t a1) t b1 n a2 b2) : Rd (pGrp t a) t b (s, n) a2 b2 :=
  R1.bind (q := fun s a1 => (pNum t a1).bind fun y => some ((s, y.1), y.2)) (R2.bind (q := fun n a2 => some ((s, n), a2)) (Rd.pure R2.le))
theorem Rd.rp {t : ByteArray} {a a1 a2 a3 : Nat} {b b1 b2 b3 : Bool} {c n : Int} {s : ByteArray} (R1 : Rd (pNum t a) t b c a1 b1) (R2 : Rd (pNum t a1) t b1 n a2 b2) (R3 : Rd (pWord t a2) t b2 s a3 b3) : Rd (pRp t a) t b (c, n, s) a3 b3 :=
  R1.bind (q := fun c a1 => (pNum t a1).bind fun z2 => (pWord t z2.2).bind fun z3 => some ((c, z2.1, z3.1), z3.2)) (R2.bind (q := fun n a2 => (pWord t a2).bind fun z3 => some ((c, n, z3.1), z3.2)) (R3.bind (q := fun s a3 => some ((c, n, s), a3)) (Rd.pure R3.le)))
theorem Rd.top {t : ByteArray} {a a1 a2 a3 a4 a5 a6 : Nat} {b b1 b2 b3 b4 b5 b6 : Bool} {nm : ByteArray} {bs : Int} {N3 N5 : Nat} {hs : List Sh.str.T} {gs : List groupSh.T} (R1 : Rd (pWord t a) t b nm a1 b1) (R2 : Rd (pNum t a1) t b1 bs a2 b2) (R3 : Rd (pMany 20 t a2) t b2 N3 a3 b3) (R4 : Rd (pRep (pWord t) N3 a3 []) t b3 hs a4 b4) (R5 : Rd (pMany 4 t a4) t b4 N5 a5 b5) (R6 : Rd (pRep (pGrp t) N5 a5 []) t b5 gs a6 b6) : Rd (pTop t a) t b (nm, bs, hs, gs) a6 b6 :=
  R1.bind (q := fun x1 e1 => (pNum t e1).bind fun z2 => (pMany 20 t z2.2).bind fun z3 => (pRep (pWord t) z3.1 z3.2 []).bind fun z4 => (pMany 4 t z4.2).bind fun z5 => (pRep (pGrp t) z5.1 z5.2 []).bind fun z6 => some ((x1, z2.1, z4.1, z6.1), z6.2))
    (R2.bind (q := fun x2 e2 => (pMany 20 t e2).bind fun z3 => (pRep (pWord t) z3.1 z3.2 []).bind fun z4 => (pMany 4 t z4.2).bind fun z5 => (pRep (pGrp t) z5.1 z5.2 []).bind fun z6 => some ((nm, x2, z4.1, z6.1), z6.2))
    (R3.bind (q := fun x3 e3 => (pRep (pWord t) x3 e3 []).bind fun z4 => (pMany 4 t z4.2).bind fun z5 => (pRep (pGrp t) z5.1 z5.2 []).bind fun z6 => some ((nm, bs, z4.1, z6.1), z6.2))
    (R4.bind (q := fun x4 e4 => (pMany 4 t e4).bind fun z5 => (pRep (pGrp t) z5.1 z5.2 []).bind fun z6 => some ((nm, bs, x4, z6.1), z6.2))
    (R5.bind (q := fun x5 e5 => (pRep (pGrp t) x5 e5 []).bind fun z6 => some ((nm, bs, hs, z6.1), z6.2))
    (R6.bind (q := fun x6 e6 => some ((nm, bs, hs, x6), e6)) (Rd.pure R6.le))))))
end Go.Dat
end
section
namespace Go.Proofs.Ytanienlcebkijaa
open Go.Abs Go.Dat
def Srz (h : AHeap) (l : Nat) : Prop := ∃ bs a n c, Src h l bs a n c ∧ ∀ l2 r, a = some ⟨l2, r, some 1⟩ → l2 ≠ l
theorem Srz.wf {h : AHeap} {l : Nat} (s : Srz h l) : h.wf := by obtain ⟨_, _, _, _, s, _⟩ := s; exact s.wf
theorem Srz.lt {h : AHeap} {l : Nat} (s : Srz h l) : l < h.n := by
  obtain ⟨_, _, _, _, s, _⟩ := s
  obtain ⟨_, _, _, hg, _⟩ := s.obj
  exact s.wf.lt hg
theorem Srz.le {h h' : AHeap} {l : Nat} (s : Srz h l) (le : h.Le h') (wf : h'.wf) : Srz h' l := by
  obtain ⟨bs, a, n, c, s, hne⟩ := s
  obtain ⟨x, y, z, hg, h1⟩ := s.obj
  exact ⟨bs, a, n, c, ⟨wf, s.bytes.mono le, s.ok, x, y, z, le.get _ _ hg, h1⟩, hne⟩
theorem sl_lt {h : AHeap} (hw : h.wf) {s : Sh} {xs : List s.T} {a : Option Addr} {n c : Nat} (hx : Sl h s xs (.slice a n c)) : ∀ l2 r, a = some ⟨l2, r, some s.cells⟩ → l2 < h.n := by
  obtain ⟨a', n', c', rows, e, h1, h2, h3, h4⟩ := hx
  cases e
  rintro l2 r rfl
  unfold AHeap.rowsOf at h2
  dsimp only at h2
  split at h2
  · rename_i o ho
    exact hw.lt ho
  · cases h2
theorem Srz.ne {h : AHeap} {l : Nat} (s : Srz h l) {bs : List Sh.byte.T} {a : Option Addr} {n c : Nat} (x : Src h l bs a n c) : ∀ l2 r, a = some ⟨l2, r, some 1⟩ → l2 ≠ l := by
  obtain ⟨_, a', n', c', s, hne⟩ := s
  obtain ⟨_, _, _, h1, _⟩ := s.obj
  obtain ⟨_, _, _, h2, _⟩ := x.obj
  have e := h1.symm.trans h2
  simp only [srcO, Option.some.injEq, AObj.mk.injEq, List.cons.injEq, Value.slice.injEq, and_true, true_and] at e
  rw [← e.1.1]; exact hne
structure Dr (l : Nat) (h h' : AHeap) : Prop where
  s0 : Srz h l
  kp : Kp [l] h h'
  wf : h'.wf
  obj : ∀ bs a n c, Src h l bs a n c → ∃ at_ mix size : Int, h'.get l = some (srcO a n c at_ mix size) ∧ (0 ≤ at_ ∧ at_ ≤ n) ∧ (0 ≤ mix ∧ mix < 18446744073709551616) ∧ (0 ≤ size ∧ size ≤ 12)
theorem kp_but {l : Nat} {h h' : AHeap} (k : Kp [l] h h') : But l h h' := ⟨k.n, fun x o hx ho => k.get x o (by simpa using hx) ho⟩
theorem Dr.tr {l : Nat} {h h' : AHeap} (d : Dr l h h') {bs : List Sh.byte.T} {a : Option Addr} {n c : Nat} (x : Src h l bs a n c) : Src h' l bs a n c :=
  ⟨d.wf, (kp_but d.kp).sl x.bytes (fun _ _ _ hr => hr) (d.s0.ne x), x.ok, d.obj _ _ _ _ x⟩
theorem Dr.src {l : Nat} {h h' : AHeap} (d : Dr l h h') : Srz h' l := by
  obtain ⟨bs, a, n, c, s, hne⟩ := d.s0
  exact ⟨bs, a, n, c, d.tr s, hne⟩
theorem Dr.trans {l : Nat} {a b c : AHeap} (x : Dr l a b) (y : Dr l b c) : Dr l a c := ⟨x.s0, x.kp.trans y.kp, y.wf, fun bs p n q s => y.obj bs p n q (x.tr s)⟩
theorem Dr.refl {l : Nat} {a : AHeap} (s : Srz a l) : Dr l a a := ⟨s, .refl, s.wf, fun _ _ _ _ x => x.obj⟩
theorem Dr.step {l : Nat} {a b c : AHeap} (x : Dr l a b) {J : List Nat} (k : Kp J b c) (wf : c.wf) (hJ : ∀ z ∈ J, a.n ≤ z) : Dr l a c :=
  ⟨x.s0, Kp.drop x.s0.wf x.kp k (fun z hz => .inr (hJ z hz)), wf, fun bs p n q s => by
    obtain ⟨u, v, w, h1, h2⟩ := x.obj bs p n q s
    exact ⟨u, v, w, k.get l _ (fun e => by have := hJ l e; have := x.s0.lt; omega) h1, h2⟩⟩
theorem Dr.le {l : Nat} {a b c : AHeap} (x : Dr l a b) (le : b.Le c) (wf : c.wf) : Dr l a c := x.step (J := []) (.of_le le) wf (by simp)
theorem Dr.of {l : Nat} {a c : AHeap} (s : Srz a l) (le : a.Le c) (wf : c.wf) : Dr l a c := (Dr.refl s).le le wf
theorem Dr.of_drawn {h h' : AHeap} {l : Nat} {bs : List Sh.byte.T} {a : Option Addr} {n c : Nat} (s : Src h l bs a n c) (d : Drawn h h' l bs a n c) (hne : ∀ l2 r, a = some ⟨l2, r, some 1⟩ → l2 ≠ l) : Dr l h h' :=
  ⟨⟨bs, a, n, c, s, hne⟩, ⟨d.but_n, fun z o hz ho => d.but z o (fun e => hz (by simp [e])) ho⟩, d.src.wf, fun bs' a' n' c' s' => by
    obtain ⟨_, _, _, h1, _⟩ := s.obj
    obtain ⟨_, _, _, h2, _⟩ := s'.obj
    have e := h1.symm.trans h2
    simp only [srcO, Option.some.injEq, AObj.mk.injEq, List.cons.injEq, Value.slice.injEq, and_true, true_and] at e
    obtain ⟨⟨rfl, rfl, rfl⟩, _⟩ := e
    exact d.src.obj⟩
theorem Dr.top {h h1 g : AHeap} {l : Nat} (hw : h.wf) (le : h.Le h1) (hl : h.n ≤ l) (d : Dr l h1 g) : h.Le g :=
  Kp.le hw ((Kp.of_le (J := [l]) le).trans d.kp) (fun z hz => by simp only [List.mem_cons, List.not_mem_nil, or_false] at hz; omega)
theorem Dr.sob {l : Nat} {h h' : AHeap} (d : Dr l h h') {s : Sh} {n0 : Nat} {a : Option Addr} {n c : Nat} {xs : List s.T} {ids : List Nat} (B : SoB s (E0 n0) h a n c xs ids) (hl : l ∉ ids) : SoB s (E0 n0) h' a n c xs ids :=
  B.kp d.kp d.wf (fun z hz e => by simp only [List.mem_cons, List.not_mem_nil, or_false] at e; exact hl (e ▸ hz))
theorem Dr.sn {l : Nat} {h h' : AHeap} (d : Dr l h h') {s : Sh} {xs : List s.T} {v : Value} {ids : List Nat} (B : Sn h s xs v ids) (hl : l ∉ ids) : Sn h' s xs v ids :=
  B.kp d.kp (fun z hz e => by simp only [List.mem_cons, List.not_mem_nil, or_false] at e; exact hl (e ▸ hz))
set_option maxRecDepth 100000
set_option maxHeartbeats 8000000
theorem dr_n (h : AHeap) (l : Nat) (s : Srz h l) (most : Int) (hm : -9223372036854775808 ≤ most ∧ most ≤ 9223372036854775807) :
    ∃ (r : Int) (h' : AHeap), ACall Try.prog 69 [.pointer (some ⟨l, 0, some 0⟩), .int .i64 most] h (.int .i64 r) h' ∧ 0 ≤ r ∧ (most ≤ 1 → r = 0) ∧ (1 < most → r < most) ∧ Dr l h h' := by
  obtain ⟨bs, a, n, c, s, hne⟩ := s
  obtain ⟨r, h', hA, h1, h2, h3, d⟩ := draw_n h l bs a n c s hne most hm
  exact ⟨r, h', hA, h1, h2, h3, .of_drawn s d hne⟩
theorem dr_one (h : AHeap) (l : Nat) (s : Srz h l) (of : Int) (hm : -9223372036854775808 ≤ of ∧ of ≤ 9223372036854775807) :
    ∃ (r : Bool) (h' : AHeap), ACall Try.prog 66 [.pointer (some ⟨l, 0, some 0⟩), .int .i64 of] h (.bool r) h' ∧ Dr l h h' := by
  obtain ⟨bs, a, n, c, s, hne⟩ := s
  obtain ⟨r, h', hA, d⟩ := draw_one h l bs a n c s hne of hm
  exact ⟨r, h', hA, .of_drawn s d hne⟩
theorem dr_pick (h : AHeap) (l : Nat) (s : Srz h l) (a2 : Option Addr) (n2 c2 : Nat) (xs : List Sh.str.T) (hx : Sl h Sh.str xs (.slice a2 n2 c2)) (hne2 : ∀ l2 r, a2 = some ⟨l2, r, some 1⟩ → l2 ≠ l) (hn2 : 1 < n2 ∧ n2 ≤ 1000000) :
    ∃ (t : ByteArray) (h' : AHeap), ACall Try.prog 68 [.pointer (some ⟨l, 0, some 0⟩), .slice a2 n2 c2] h (.string t) h' ∧ t ∈ xs ∧ Dr l h h' := by
  obtain ⟨bs, a, n, c, s, hne⟩ := s
  obtain ⟨t, h', hA, h1, d⟩ := draw_pick h l bs a n c s hne a2 n2 c2 xs hx hne2 hn2
  exact ⟨t, h', hA, h1, .of_drawn s d hne⟩
theorem dr_new (h : AHeap) (hw : h.wf) (a : Option Addr) (n c : Nat) (bytes : List Sh.byte.T) (hx : Sl h Sh.byte bytes (.slice a n c)) (ok : (Sh.sl Sh.byte).ok bytes) :
    ∃ h', ACall Try.prog 65 [.slice a n c] h (.pointer (some ⟨h.n, 0, some 0⟩)) h' ∧ h.Le h' ∧ h'.wf ∧ Srz h' h.n := by
  obtain ⟨_, h', hA, le, rfl, s⟩ := l01Source_spec h hw a n c bytes hx ok
  exact ⟨h', hA, le, s.wf, _, _, _, _, s, fun l2 r e => by have := sl_lt hw hx l2 r e; omega⟩
end Go.Proofs.Ytanienlcebkijaa
end
section
namespace Go.Dat
open Go.Abs
def AscAt {α : Type} (k : α → Int) (P : α → Prop) (xs : List α) (i : Nat) : Prop := ∃ x, xs[i]? = some x ∧ P x ∧ ∀ j, i = j + 1 → ∃ y, xs[j]? = some y ∧ k y < k x
def Asc {α : Type} (k : α → Int) (P : α → Prop) (xs : List α) : Prop := ∀ i, i < xs.length → AscAt k P xs i
theorem AscAt.mk0 {α : Type} {k : α → Int} {P : α → Prop} {xs : List α} {i : Nat} {x : α} (e : xs[i]? = some x) (h1 : P x) (hi0 : i = 0) : AscAt k P xs i := ⟨x, e, h1, fun j hj => by omega⟩
theorem AscAt.out {α : Type} {k : α → Int} {P : α → Prop} {xs : List α} {i : Nat} {x : α} (H : AscAt k P xs i) (e : xs[i]? = some x) : P x ∧ ∀ y, 0 < i → xs[i - 1]? = some y → k y < k x := by
  obtain ⟨x', e', h1, h2⟩ := H
  rw [e] at e'
  cases e'
  refine ⟨h1, fun y hp e2 => ?_⟩
  obtain ⟨y', e3, h4⟩ := h2 (i - 1) (by omega)
  rw [e2] at e3
  cases e3
  exact h4
theorem Asc.mem {α : Type} {k : α → Int} {P : α → Prop} {xs : List α} (H : Asc k P xs) {x : α} (hx : x ∈ xs) : P x := by
  obtain ⟨i, hi⟩ := List.mem_iff_getElem?.1 hx
  exact ((H i (List.getElem?_eq_some_iff.1 hi).1).out hi).1
theorem Asc.low {α : Type} {k : α → Int} {P : α → Prop} {xs : List α} (H : Asc k P xs) {lo : Int} (hP : ∀ x, P x → lo ≤ k x) : ∀ (i : Nat) (x : α), xs[i]? = some x → lo + i ≤ k x
  | 0, x, e => by have := hP x ((H 0 (List.getElem?_eq_some_iff.1 e).1).out e).1; omega
  | i + 1, x, e => by
    have hi := (List.getElem?_eq_some_iff.1 e).1
    obtain ⟨y, hy⟩ : ∃ y, xs[i]? = some y := ⟨_, List.getElem?_eq_getElem (by omega)⟩
    have h1 := Asc.low H hP i y hy
    have h2 := ((H (i + 1) hi).out e).2 y (by omega) hy
    omega
theorem Asc.len {α : Type} {k : α → Int} {P : α → Prop} {xs : List α} (H : Asc k P xs) {lo hi : Int} (hP : ∀ x, P x → InR lo hi (k x)) (hb : lo ≤ hi + 1) : (xs.length : Int) ≤ hi - lo + 1 := by
  cases hl : xs.length with
  | zero => omega
  | succ n =>
    obtain ⟨x, hx⟩ : ∃ x, xs[n]? = some x := ⟨_, List.getElem?_eq_getElem (by omega)⟩
    have h1 := H.low (fun x h => (hP x h).1) n x hx
    have h2 := (hP x (H.mem (List.mem_of_getElem? hx))).2
    omega
theorem Asc.nil {α : Type} {k : α → Int} {P : α → Prop} : Asc k P [] := fun _ hi => absurd hi (Nat.not_lt_zero _)
theorem Asc.one {α : Type} {k : α → Int} {P : α → Prop} {x : α} : Asc k P [x] ↔ P x := ⟨fun H => H.mem (List.mem_singleton.2 rfl), fun h i hi => by
  obtain rfl : i = 0 := by simp at hi; omega
  exact .mk0 rfl h rfl⟩
def QuoOk (l : List Sh.int.T) : Prop := Asc (fun x : Int => x) (InR 0 3) l ∧ 3 ≤ l.length
def PrfOk (v q : Int) (op : ByteArray) (l : List Sh.int.T) : Prop := InR 0 7 v ∧ InR 1 6 q ∧ op.size ≤ 120 ∧ QuoOk l
def ChgOk (f v : Int) (ps : List proofSh.T) : Prop := InR 0 3 f ∧ InR 1 7 v ∧ Asc (fun p : proofSh.T => p.2.1) (fun p : proofSh.T => PrfOk p.1 p.2.1 p.2.2.1 p.2.2.2 ∧ (show Int from p.1) < v) ps
def ChgsOk (v : Int) (cs : List changeSh.T) : Prop := Asc (fun c : changeSh.T => c.1) (fun c : changeSh.T => ChgOk c.1 c.2.1 c.2.2 ∧ (show Int from c.2.1) = v) cs
theorem QuoOk.len {l : List Sh.int.T} (H : QuoOk l) : l.length ≤ 4 := by
  have := H.1.len (lo := 0) (hi := 3) (fun x h => h) (by omega)
  omega
theorem ChgOk.len {f v : Int} {ps : List proofSh.T} (H : ChgOk f v ps) : ps.length ≤ 6 := by
  have := Asc.len H.2.2 (lo := 1) (hi := 6) (fun x h => h.1.2.1) (by omega)
  omega
theorem ChgsOk.len {v : Int} {cs : List changeSh.T} (H : ChgsOk v cs) : cs.length ≤ 4 := by
  have := Asc.len H (lo := 0) (hi := 3) (fun x h => h.1.1) (by omega)
  omega
theorem inT {lo hi n : Int} (h : (decide (lo ≤ n) && decide (n ≤ hi)) = true) : InR lo hi n := by simpa [InR] using h
theorem inF {lo hi n : Int} (h : (decide (lo ≤ n) && decide (n ≤ hi)) = false) : ¬ InR lo hi n := fun H => by
  obtain ⟨h1, h2⟩ := H
  simp [h1, h2] at h
theorem tr_congr {p q : Prop} (h : p ↔ q) : tr p = tr q := congrArg tr (propext h)
theorem tr_dec {p : Prop} [Decidable p] : decide p = tr p := by
  by_cases h : p
  · rw [← tr_true h]; simp [h]
  · rw [← tr_false h]; simp [h]
theorem bs_b {b : Bool} {A B : Prop} (h1 : b = true → A) (h2 : b = false → B) : bs b A B := by
  cases b with
  | true => exact h1 rfl
  | false => exact h2 rfl
end Go.Dat
namespace Go.Proofs.Ytanienlcebkijaa
open Go.Abs Go.Dat
set_option maxRecDepth 100000
set_option maxHeartbeats 8000000
end Go.Proofs.Ytanienlcebkijaa
end
section
namespace Go.Dat
open Go.Abs
end Go.Dat
namespace Go.Proofs.Ytanienlcebkijaa
open Go.Abs Go.Dat
set_option maxRecDepth 100000
set_option maxHeartbeats 8000000
end Go.Proofs.Ytanienlcebkijaa
end
section
namespace Go.Abs
def AHeap.pad (h : AHeap) (l e k : Nat) : AHeap := match h.get l with
  | some o => h.put l (some ⟨o.rows ++ List.replicate (k - o.rows.length) (List.replicate e (.chan none)), o.esz, o.rw⟩)
  | none => h
theorem turns_refl (w : World) (b : Nat) : Turns w w b := ⟨rfl, rfl, rfl, rfl, fun _ _ => rfl⟩
theorem Rel.pad {L : Lay} {F R : Nat → Prop} {w0 w : World} {h : AHeap} (r : Rel L F R w0 w h) {l k : Nat} {s : Site} {rows : List (List Value)} {e : Nat} (hl : h.get l = some ⟨rows, e, true⟩) (hs : L l = some s) (room : s.base + k * e ≤ s.bsz) :
    Rel L F R w0 w (h.pad l e k) := by
  unfold AHeap.pad
  rw [hl]
  dsimp only
  have or := r.obj l _ s hl hs
  have hes : s.esz = e := or.esz
  obtain ⟨bc, ty, fr, hh, hbs, hfr⟩ := or.own rfl
  refine r.rewrite hl hs rfl rfl (turns_refl w _) ⟨or.esz, or.rw, or.lt, fun i row hi => ?_, fun i row hi j v hj => ?_, fun _ => ⟨bc, ty, fr, hh, hbs, hfr⟩⟩
  · rcases Nat.lt_or_ge i rows.length with h1 | h1
    · rw [List.getElem?_append_left h1] at hi; exact or.len i row hi
    · rw [List.getElem?_append_right h1] at hi
      rw [List.eq_of_mem_replicate (List.mem_of_getElem? hi)]; simp
  · rcases Nat.lt_or_ge i rows.length with h1 | h1
    · rw [List.getElem?_append_left h1] at hi; exact or.cell i row hi j v hj
    · rw [List.getElem?_append_right h1] at hi
      have hik := (List.getElem?_eq_some_iff.1 hi).1
      rw [List.length_replicate] at hik
      have hrow := List.eq_of_mem_replicate (List.mem_of_getElem? hi)
      subst hrow
      have hje := (List.getElem?_eq_some_iff.1 hj).1
      rw [List.length_replicate] at hje
      have hv := List.eq_of_mem_replicate (List.mem_of_getElem? hj)
      subst hv
      have h2 : (i + 1) * e ≤ k * e := Nat.mul_le_mul_right _ (by omega)
      rw [Nat.succ_mul] at h2
      have h3 : s.base + i * e + j < bc.size := by omega
      refine ⟨bc[s.base + i * e + j], ?_, .junk _⟩
      unfold World.cell?
      rw [hh, hes]
      simp [h3]
theorem acall_room {P : Program} {f : FuncId} {l r e n c : Nat} {rest : List Value} {h h' : AHeap} {v : Value} {rows : List (List Value)} (hl : h.get l = some ⟨rows, e, true⟩)
    (H : ∀ C, n ≤ C → ACall P f (.slice (some ⟨l, r, some e⟩) n (C + 1) :: rest) (h.pad l e (r + C)) v h') :
    ACall P f (.slice (some ⟨l, r, some e⟩) n c :: rest) h v h' := by
  intro L F R w0 w ARGS rel ha
  obtain ⟨hs, hv⟩ := ha
  have h0 : 0 < ARGS.size := by rw [← hs]; simp
  have v0 := hv 0 _ _ rfl (Array.getElem?_eq_getElem h0)
  generalize hA : ARGS[0] = A0 at v0
  cases v0 with
  | slice hL he hn ha room hc =>
    rename_i C s A
    have or := rel.obj l _ s hl hL
    have rp := rel.pad (k := r + C) hl hL (room or.rw)
    have hn' : (h.pad l e (r + C)).n = h.n := by unfold AHeap.pad; rw [hl]; rfl
    refine (H C hn L F R w0 w ARGS rp ⟨by rw [← hs]; simp, fun i x X hx hX => ?_⟩).mono ?_
    · cases i with
      | zero =>
        simp at hx; subst hx
        rw [Array.getElem?_eq_getElem h0, hA] at hX
        obtain rfl := Option.some.inj hX
        exact .slice hL he hn ha room (.inr rfl)
      | succ i => exact hv (i + 1) x X (by simpa using hx) hX
    · rintro ex W ⟨V, L', e1, ext, e3, e4⟩
      exact ⟨V, L', e1, ⟨by rw [← hn']; exact ext.n, fun x hx => ext.lay x (by rw [hn']; exact hx)⟩, e3, e4⟩
theorem acall_kill {P : Program} {f : FuncId} {args : List Value} {h h' : AHeap} {v : Value} (H : ACall P f args h v h') (l : Nat) : ACall P f args h v (h'.put l none) := by
  intro L F R w0 w ARGS rel ha
  refine (H L F R w0 w ARGS rel ha).mono ?_
  rintro ex W ⟨V, L', e1, ext, e3, e4⟩
  exact ⟨V, L', e1, ⟨ext.n, ext.lay⟩, e3, e4.kill l⟩
theorem acall_rehome {P : Program} {f : FuncId} {args : List Value} {h h' : AHeap} {l r e n c : Nat} {rows : List (List Value)} (hl : h'.get l = some ⟨rows, e, true⟩)
    (H : ACall P f args h (.slice (some ⟨l, r, some e⟩) n c) h') : ACall P f args h (.slice (some ⟨h'.n, 0, some e⟩) n 0) ((h'.put l none).push ⟨(rows.drop r).take n, e, true⟩) := by
  intro L F R w0 w ARGS rel ha
  refine (H L F R w0 w ARGS rel ha).mono ?_
  rintro ex W ⟨V, L', e1, ext, e3, q⟩
  cases e3 with
  | slice hL he hn ha room hc =>
    rename_i C s A
    have or := q.obj l _ s hl hL
    have hes : s.esz = e := or.esz
    obtain ⟨bc, ty, fr, hh, hbs, hfr⟩ := or.own rfl
    have hk := q.kill l
    have hno : ∀ x y p, (h'.put l none).get x = some y → L' x = some p → p.blk ≠ s.blk := by
      intro x y p h1 h2 e
      by_cases ex : x = l
      · subst ex; rw [AHeap.get_put_eq] at h1; cases h1
      · rw [AHeap.get_put_ne ex] at h1
        exact q.apart l x _ y s p hl h1 hL h2 rfl (Ne.symm ex) e.symm
    have hle := Lay.le_set (L := L') (q.unl h'.n (Nat.le_refl _)) ⟨s.blk, s.base + r * e, e, s.bsz, true⟩
    have pa := hk.pushAt (s := ⟨s.blk, s.base + r * e, e, s.bsz, true⟩) (o' := ⟨(rows.drop r).take n, e, true⟩) rfl (q.free l _ s hl hL rfl) hno (turns_refl W _) (by
      refine ⟨rfl, rfl, or.lt, fun i row hi => ?_, fun i row hi j v hj => ?_, fun _ => ⟨bc, ty, fr, hh, hbs, hfr.imp id fun h => ⟨by show e = 1; rw [← hes]; exact h.1, h.2⟩⟩⟩
      · rw [List.getElem?_take] at hi
        split at hi
        · rw [List.getElem?_drop] at hi; exact or.len _ row hi
        · cases hi
      · rw [List.getElem?_take] at hi
        split at hi
        · rw [List.getElem?_drop] at hi
          obtain ⟨V2, a1, a2⟩ := or.cell _ row hi j v hj
          refine ⟨V2, ?_, a2.mono hle⟩
          rw [hes, Nat.add_mul] at a1
          show W.cell? ⟨s.blk, s.base + r * e + i * e + j, none⟩ = some V2
          rw [← a1]; congr 2; omega
        · cases hi)
    refine ⟨_, _, e1, ⟨Nat.le_trans ext.n (Nat.le_succ _), fun x hx => ?_⟩, .slice (s := ⟨s.blk, s.base + r * e, e, s.bsz, true⟩) (if_pos rfl) rfl hn (ha.imp id fun h => ?_) (fun _ => ?_) (.inl rfl), pa⟩
    · have h1 := ext.n
      show (if x = h'.n then _ else L' x) = L x
      rw [if_neg (by omega)]; exact ext.lay x hx
    · rw [h]; simp
    · have := room or.rw
      show s.base + r * e + (0 + C) * e ≤ s.bsz
      rw [Nat.zero_add]
      rw [Nat.add_mul] at this; omega
end Go.Abs
end
section
namespace Go.Dat
open Go.Abs
theorem mid {i j : Nat} (h : i ≤ j) (hj : j ≤ 4611686018427387903) : IntKind.i64.wrap (Int.fdiv (IntKind.u64.wrap (IntKind.i64.wrap ((i : Int) + j))) (2 ^ min (Int.toNat 1) IntKind.u64.bits)) = (((i + j) / 2 : Nat) : Int) := by
  have e1 : IntKind.i64.wrap ((i : Int) + j) = ((i + j : Nat) : Int) := by rw [wrap_i64 (by omega)]; omega
  have e2 : IntKind.u64.wrap ((i + j : Nat) : Int) = ((i + j : Nat) : Int) := by
    have e : IntKind.u64.wrap ((i + j : Nat) : Int) = if (false && decide (((i + j : Nat) : Int) % 18446744073709551616 ≥ 9223372036854775808)) = true then ((i + j : Nat) : Int) % 18446744073709551616 - 18446744073709551616 else ((i + j : Nat) : Int) % 18446744073709551616 := rfl
    rw [e]; simp only [Bool.false_and, Bool.false_eq_true, if_false]; omega
  have e3 : (2 : Int) ^ min (Int.toNat 1) IntKind.u64.bits = 2 := by decide
  rw [e1, e2, e3, Int.fdiv_eq_ediv_of_nonneg _ (by decide), wrap_i64 (by omega)]
  omega
def Sh.flat : Sh → Bool
  | .pair a b => a.flat && b.flat
  | .sl _ => false
  | _ => true
theorem Sh.flat_rn {h g : AHeap} : ∀ {s : Sh}, s.flat = true → ∀ {x : s.T} {cs : List Value}, s.rd h x cs → s.rn g x cs [] := by
  intro s
  induction s with
  | int => intro _ x cs e; exact ⟨e, rfl⟩
  | bool => intro _ x cs e; exact ⟨e, rfl⟩
  | str => intro _ x cs e; exact ⟨e, rfl⟩
  | byte => intro _ x cs e; exact ⟨e, rfl⟩
  | pair a b iha ihb =>
    rintro hf x cs ⟨c1, c2, rfl, h1, h2⟩
    have hf' : a.flat = true ∧ b.flat = true := by simpa [Sh.flat] using hf
    exact ⟨c1, c2, [], [], rfl, rfl, iha hf'.1 h1, ihb hf'.2 h2⟩
  | sl e ih => intro hf; cases hf
theorem Sh.rd_leaf {h : AHeap} : ∀ {s : Sh} {x : s.T} {cs : List Value}, s.rd h x cs → ∀ v ∈ cs, oneLeaf v = true := by
  intro s
  induction s with
  | int => rintro x cs rfl v hv; rw [List.mem_singleton.1 hv]; rfl
  | bool => rintro x cs rfl v hv; rw [List.mem_singleton.1 hv]; rfl
  | str => rintro x cs rfl v hv; rw [List.mem_singleton.1 hv]; rfl
  | byte => rintro x cs rfl v hv; rw [List.mem_singleton.1 hv]; rfl
  | pair a b iha ihb =>
    rintro x cs ⟨c1, c2, rfl, h1, h2⟩ v hv
    rcases List.mem_append.1 hv with hv | hv
    · exact iha h1 v hv
    · exact ihb h2 v hv
  | sl e ih =>
    rintro x cs ⟨a, n, c, rows, rfl, _⟩ v hv
    rw [List.mem_singleton.1 hv]; rfl
theorem Sl.rows {h : AHeap} {s : Sh} {xs : List s.T} {a : Option Addr} {n c : Nat} (x : Sl h s xs (.slice a n c)) :
    ∃ rows, h.rowsOf (.slice a n c) = some rows ∧ rows.length = n ∧ (rows.all fun row => decide (row.length = s.cells) && row.all fun v => match v with | .agg _ => false | .tuple _ => false | .complex _ _ _ => false | .chan _ => false | _ => true) = true ∧
      ∀ (i : Nat) (y : s.T) (row : List Value), xs[i]? = some y → rows[i]? = some row → s.rd h y row := by
  obtain ⟨a', n', c', rows, e, h1, h2, h3, h4⟩ := x
  cases e
  have hl := rowsOf_len h1 h2
  refine ⟨rows, h2, hl, List.all_eq_true.2 fun row hr => ?_, h4⟩
  obtain ⟨i, hi⟩ := List.mem_iff_getElem?.1 hr
  have hlt := (List.getElem?_eq_some_iff.1 hi).1
  have rd := h4 i _ row (List.getElem?_eq_getElem (by omega)) hi
  rw [Bool.and_eq_true]
  exact ⟨decide_eq_true (Sh.rd_len rd), List.all_eq_true.2 fun v hv => Sh.rd_leaf rd v hv⟩
theorem flat_nil : ∀ n : Nat, (List.replicate n ([] : List Nat)).flatten = []
  | 0 => rfl
  | n + 1 => by rw [List.replicate_succ, List.flatten_cons, flat_nil n]; rfl
theorem SoB.flat {s : Sh} (hf : s.flat = true) {h0 h g : AHeap} {xs : List s.T} {n l c : Nat} {rows : List (List Value)} (le : h0.Le h) (wf : h.wf) (wf0 : h0.wf) (hn : h0.n ≤ l) (hx : xs.length = n) (hg : h.get l = some ⟨rows, s.cells, true⟩) (hr : rows.length = n) (hc : c = 0 ∨ c = n + 1)
    (hrd : ∀ (i : Nat) (y : s.T) (row : List Value), xs[i]? = some y → rows[i]? = some row → s.rd g y row) : SoB s h0 h (some ⟨l, 0, some s.cells⟩) n c xs [l] := by
  refine ⟨le, wf, wf0, hx, ⟨by simp, fun z hz => ?_⟩, .inr ⟨l, rows, List.replicate n [], rfl, hg, hr, by simp, by rw [flat_nil], hc, fun i x row js h1 h2 h3 => ?_⟩⟩
  · rw [List.mem_singleton.1 hz]; exact ⟨hn, wf.lt hg⟩
  · rw [List.eq_of_mem_replicate (List.mem_of_getElem? h3)]
    exact Sh.flat_rn hf (hrd i x row h1 h2)
theorem app_clone {s : Sh} (hf : s.flat = true) {h : AHeap} (hw : h.wf) {a : Option Addr} {n c : Nat} {xs : List s.T} (x : Sl h s xs (.slice a n c)) :
    ∃ rows, rowsV (h.push ⟨[], s.cells, true⟩) (.slice a n c) = some rows ∧ (rows.all fun row => decide (row.length = s.cells) && row.all fun v => match v with | .agg _ => false | .tuple _ => false | .complex _ _ _ => false | .chan _ => false | _ => true) = true ∧ rows.length = n ∧
      ∃ l c' h', (h.push ⟨[], s.cells, true⟩).app (.slice (some ⟨h.n, 0, some s.cells⟩) 0 1) rows s.cells = some (.slice (some ⟨l, 0, some s.cells⟩) n c', h') ∧ SoB s h h' (some ⟨l, 0, some s.cells⟩) n c' xs [l] := by
  have lp := AHeap.Le.push hw ⟨[], s.cells, true⟩
  have wp := hw.push ⟨[], s.cells, true⟩
  obtain ⟨rows, h2, hl, hall, hrd⟩ := x.rows
  have hx := x.len
  refine ⟨rows, lp.rowsOf h2, hall, hl, ?_⟩
  cases rows with
  | nil =>
    subst hl
    exact ⟨h.n, 1, _, rfl, SoB.flat hf lp wp hw (Nat.le_refl _) hx AHeap.get_push_eq rfl (.inr rfl) hrd⟩
  | cons r rs =>
    refine ⟨(h.push ⟨[], s.cells, true⟩).n, 0, _, ?_, SoB.flat hf (lp.trans (.push wp ⟨r :: rs, s.cells, true⟩)) (wp.push _) hw lp.n hx AHeap.get_push_eq hl (.inl rfl) hrd⟩
    have e0 : (h.push ⟨[], s.cells, true⟩).rowsOf (.slice (some ⟨h.n, 0, some s.cells⟩) 0 1) = some [] := by rw [get_rowsOf AHeap.get_push_eq (by simp)]; rfl
    have e1 : decide (1 ≤ 0 + (r :: rs).length) = true := decide_eq_true (by simp)
    unfold AHeap.app
    dsimp only
    rw [e0]
    dsimp only
    rw [beq_self_eq_true, cond_true, e1]
    simp only [List.nil_append, Nat.zero_add, hl]
    rfl
def ins {α : Type} (xs : List α) (i : Nat) (x : α) : List α := xs.take i ++ x :: xs.drop i
theorem ins_length {α : Type} {xs : List α} {i : Nat} {x : α} (hi : i ≤ xs.length) : (ins xs i x).length = xs.length + 1 := by
  unfold ins; rw [List.length_append, List.length_cons, List.length_take, List.length_drop]; omega
theorem ins_get {α : Type} {xs : List α} {i : Nat} {x : α} (hi : i ≤ xs.length) (j : Nat) : (ins xs i x)[j]? = if j < i then xs[j]? else if j = i then some x else xs[j - 1]? := by
  have hl : (xs.take i).length = i := by rw [List.length_take]; omega
  unfold ins
  by_cases h1 : j < i
  · rw [if_pos h1, List.getElem?_append_left (by omega), List.getElem?_take, if_pos h1]
  · rw [if_neg h1, List.getElem?_append_right (by omega), hl]
    by_cases h2 : j = i
    · rw [if_pos h2, h2, Nat.sub_self]; rfl
    · rw [if_neg h2, show j - i = (j - i - 1) + 1 by omega, List.getElem?_cons_succ, List.getElem?_drop]; congr 1; omega
theorem ins_flat {idss : List (List Nat)} {i : Nat} {js : List Nat} : (ins idss i js).flatten.Perm (idss.flatten ++ js) := by
  have e : idss.flatten = (idss.take i).flatten ++ (idss.drop i).flatten := by rw [← List.flatten_append, List.take_append_drop]
  unfold ins
  rw [List.flatten_append, List.flatten_cons, e, List.append_assoc]
  exact List.Perm.append_left _ List.perm_append_comm
theorem SoB.ins {s : Sh} {h0 h : AHeap} {l n : Nat} {xs : List s.T} {rows : List (List Value)} {idss : List (List Nat)} {js : List Nat} {x : s.T} {cs : List Value} {i : Nat} (le : h0.Le h) (wf : h.wf) (wf0 : h0.wf) (hx : xs.length = n) (fr : Fresh h0.n h.n (l :: idss.flatten))
    (hg : h.get l = some ⟨rows, s.cells, true⟩) (hr : rows.length = n) (hi : List.length (α := List Nat) idss = n) (hrn : ∀ (i : Nat) (x : s.T) (row : List Value) (js : List Nat), xs[i]? = some x → rows[i]? = some row → idss[i]? = some js → s.rn h x row js)
    (rn : s.rn h x cs js) (fj : Fresh h0.n h.n js) (d : ∀ z ∈ l :: idss.flatten, z ∉ js) (hin : i ≤ n) :
    SoB s h0 ((h.put l none).push ⟨Dat.ins rows i cs, s.cells, true⟩) (some ⟨h.n, 0, some s.cells⟩) (n + 1) 0 (Dat.ins xs i x) (h.n :: (Dat.ins idss i js).flatten) := by
  have hlt : l < h.n := wf.lt hg
  have h0l : h0.n ≤ l := (fr.bd l List.mem_cons_self).1
  have w2 := wf.put hlt none
  have keep : ∀ z o, z ≠ l → h.get z = some o → ((h.put l none).push ⟨Dat.ins rows i cs, s.cells, true⟩).get z = some o := fun z o hz ho => (AHeap.Le.push w2 _).get z o (by rw [AHeap.get_put_ne hz]; exact ho)
  have ndl := List.nodup_cons.1 fr.nd
  refine ⟨(le.put (wf0 l h0l) none).trans (.push w2 _), w2.push _, wf0, by rw [ins_length (by omega)]; omega, ?_, .inr ⟨h.n, Dat.ins rows i cs, Dat.ins idss i js, rfl, ?_, by rw [ins_length (by omega)]; omega, by rw [ins_length (by omega)]; omega, rfl, .inl rfl, ?_⟩⟩
  · have p := fr.perm3 fj (fun z hz => d z (List.mem_cons_of_mem _ hz)) (Nat.le_refl _)
    exact ⟨(List.Perm.nodup_iff (ins_flat.cons _)).2 p.nd, fun z hz => p.bd z ((ins_flat.cons _).mem_iff.1 hz)⟩
  · show ((h.put l none).push _).get (h.put l none).n = _
    exact AHeap.get_push_eq
  · intro j y row q h1 h2 h3
    rw [ins_get (by omega)] at h1 h2 h3
    by_cases c1 : j < i
    · rw [if_pos c1] at h1 h2 h3
      exact (hrn j y row q h1 h2 h3).keep (fun z hz o => keep z o (fun e => ndl.1 (List.mem_flatten.2 ⟨q, List.mem_of_getElem? h3, e ▸ hz⟩)))
    · rw [if_neg c1] at h1 h2 h3
      by_cases c2 : j = i
      · rw [if_pos c2] at h1 h2 h3
        cases h1; cases h2; cases h3
        exact rn.keep (fun z hz o => keep z o (fun e => d l List.mem_cons_self (e ▸ hz)))
      · rw [if_neg c2] at h1 h2 h3
        exact (hrn _ y row q h1 h2 h3).keep (fun z hz o => keep z o (fun e => ndl.1 (List.mem_flatten.2 ⟨q, List.mem_of_getElem? h3, e ▸ hz⟩)))
end Go.Dat
end
section
namespace Go.Dat
open Go.Abs
abbrev chkR (z : Nat) (rows : List (List Value)) : Prop := (rows.all fun row => decide (row.length = z) && row.all fun v => match v with | .agg _ => false | .tuple _ => false | .complex _ _ _ => false | .chan _ => false | _ => true) = true
theorem chkR.drop {z i : Nat} {rows : List (List Value)} (h : chkR z rows) : chkR z (rows.drop i) := List.all_eq_true.2 fun x hx => List.all_eq_true.1 h x (List.mem_of_mem_drop hx)
theorem chkR.take {z i : Nat} {rows : List (List Value)} (h : chkR z rows) : chkR z (rows.take i) := List.all_eq_true.2 fun x hx => List.all_eq_true.1 h x (List.mem_of_mem_take hx)
theorem ah_ext {a b : AHeap} (h1 : a.n = b.n) (h2 : ∀ x, a.get x = b.get x) : a = b := by
  obtain ⟨n, f⟩ := a
  obtain ⟨m, g⟩ := b
  obtain rfl : n = m := h1
  obtain rfl : f = g := funext h2
  rfl
theorem pad_eq {h : AHeap} {l z k : Nat} {rows : List (List Value)} (hg : h.get l = some ⟨rows, z, true⟩) : ∃ J, h.pad l z k = h.put l (some ⟨rows ++ J, z, true⟩) ∧ J.length = k - rows.length :=
  ⟨List.replicate (k - rows.length) (List.replicate z (.chan none)), by unfold AHeap.pad; rw [hg], by simp⟩
theorem get_rows {h : AHeap} {l r z n c : Nat} {rows : List (List Value)} (hg : h.get l = some ⟨rows, z, true⟩) (hr : r + n ≤ rows.length) : h.rowsOf (.slice (some ⟨l, r, some z⟩) n c) = some ((rows.drop r).take n) := get_rowsOf hg hr
theorem cpy_set {h : AHeap} {l r z : Nat} {rows xs : List (List Value)} (hg : h.get l = some ⟨rows, z, true⟩) (hne : xs ≠ []) (hr : r + xs.length ≤ rows.length) : h.cpy (some ⟨l, r, some z⟩) z xs = some (h.put l (some ⟨setRows rows r xs, z, true⟩)) := by
  cases xs with
  | nil => exact absurd rfl hne
  | cons x xs =>
    unfold AHeap.cpy AHeap.wrs
    dsimp only
    rw [hg]
    simp only [beq_self_eq_true, cond_true, Bool.true_and]
    rw [decide_eq_true hr]
    rfl
theorem put_none {h : AHeap} {l : Nat} {o : Option AObj} : (h.put l o).put l none = h.put l none := ah_ext rfl fun x => by
  show (if x = l then none else if x = l then o else h.get x) = if x = l then none else h.get x
  split <;> rfl
theorem ins_place {h : AHeap} {l l2 z n C c c2 i : Nat} {rows : List (List Value)} {cs : List Value} (hg : h.get l = some ⟨rows, z, true⟩) (hr : rows.length = n) (h2 : h.get l2 = some ⟨[cs], z, true⟩) (hne : l ≠ l2) (hi : i < n) (hC : n + 1 ≤ C) (hc : chkR z rows) (hcs : chkR z [cs]) :
    ∃ xs1 h1, (h.pad l z (0 + C)).rowsOf (.slice (some ⟨l, i, some z⟩) (n - i) c) = some xs1 ∧ chkR z xs1 ∧ (h.pad l z (0 + C)).cpy (some ⟨l, i + 1, some z⟩) z xs1 = some h1 ∧
      ∃ xs2 g, h1.rowsOf (.slice (some ⟨l2, 0, some z⟩) 1 c2) = some xs2 ∧ chkR z xs2 ∧ h1.cpy (some ⟨l, i, some z⟩) z xs2 = some g ∧ g.put l none = h.put l none ∧ ∃ rows', g.get l = some ⟨rows', z, true⟩ ∧ rows'.take (n + 1) = ins rows i cs := by
  obtain ⟨J, eJ, hJ⟩ := pad_eq (k := 0 + C) hg
  have lenR : (rows ++ J).length = C := by rw [List.length_append]; omega
  have g0 : (h.put l (some ⟨rows ++ J, z, true⟩)).get l = some ⟨rows ++ J, z, true⟩ := AHeap.get_put_eq
  have ex : ((rows ++ J).drop i).take (n - i) = rows.drop i := by
    rw [List.drop_append_of_le_length (by omega), List.take_append_of_le_length (by rw [List.length_drop]; omega), List.take_of_length_le (by rw [List.length_drop]; omega)]
  have hd : (rows.drop i).length = n - i := by rw [List.length_drop, hr]
  have hne1 : rows.drop i ≠ [] := fun e => by rw [e] at hd; simp at hd; omega
  have lenS : (setRows (rows ++ J) (i + 1) (rows.drop i)).length = C := by rw [setRows_length (by omega)]; exact lenR
  rw [eJ]
  refine ⟨_, _, get_rows g0 (by omega), by rw [ex]; exact hc.drop, by rw [ex]; exact cpy_set g0 hne1 (by omega), [cs], _, ?_, hcs, cpy_set AHeap.get_put_eq (by simp) (by rw [lenS]; simp; omega), ?_, _, AHeap.get_put_eq, ?_⟩
  · have : ((h.put l (some ⟨rows ++ J, z, true⟩)).put l (some ⟨setRows (rows ++ J) (i + 1) (rows.drop i), z, true⟩)).get l2 = some ⟨[cs], z, true⟩ := by
      rw [AHeap.get_put_ne (Ne.symm hne), AHeap.get_put_ne (Ne.symm hne)]; exact h2
    rw [get_rows this (by simp)]; rfl
  · rw [put_none, put_none, put_none]
  · have lenT : (setRows (setRows (rows ++ J) (i + 1) (rows.drop i)) i [cs]).length = C := by rw [setRows_length (by rw [lenS]; simp; omega)]; exact lenS
    apply List.ext_getElem?
    intro j
    rw [ins_get (by omega), List.getElem?_take]
    by_cases hj : j < n + 1
    · rw [if_pos hj, setRows_get (by rw [lenS]; simp; omega), setRows_get (by omega)]
      by_cases c1 : j < i
      · rw [if_pos c1, if_pos c1, if_pos (by omega), List.getElem?_append_left (by omega)]
      · rw [if_neg c1, if_neg c1]
        by_cases c2 : j = i
        · rw [if_pos (by simp; omega), if_pos c2, c2, Nat.sub_self]; rfl
        · rw [if_neg (by simp; omega), if_neg c2, if_neg (by omega), if_pos (by omega), List.getElem?_drop]; congr 1; omega
    · rw [if_neg hj, if_neg (by omega), if_neg (by omega), List.getElem?_eq_none (by omega)]
theorem ins_new {h : AHeap} {l l2 z n C c c2 i : Nat} {rows : List (List Value)} {cs zr : List Value} (hw : h.wf) (hg : h.get l = some ⟨rows, z, true⟩) (hr : rows.length = n) (h2 : h.get l2 = some ⟨[cs], z, true⟩) (hne : l ≠ l2) (hi : i < n) (hC : C = n) (hc : chkR z rows) (hcs : chkR z [cs]) :
    (h.pad l z (0 + C)).rowsOf (.slice (some ⟨l, 0, some z⟩) i c) = some (rows.take i) ∧
    ∃ xs2 h1, ((h.pad l z (0 + C)).push ⟨rows.take i ++ List.replicate (n + 1 - i) zr, z, true⟩).rowsOf (.slice (some ⟨l2, 0, some z⟩) 1 c2) = some xs2 ∧ chkR z xs2 ∧ ((h.pad l z (0 + C)).push ⟨rows.take i ++ List.replicate (n + 1 - i) zr, z, true⟩).cpy (some ⟨(h.pad l z (0 + C)).n, i, some z⟩) z xs2 = some h1 ∧
      ∃ xs1 g, h1.rowsOf (.slice (some ⟨l, i, some z⟩) (n - i) c) = some xs1 ∧ chkR z xs1 ∧ h1.cpy (some ⟨(h.pad l z (0 + C)).n, i + 1, some z⟩) z xs1 = some g ∧ (h.pad l z (0 + C)).n = h.n ∧ g.put l none = (h.put l none).push ⟨ins rows i cs, z, true⟩ := by
  obtain ⟨J, eJ, hJ⟩ := pad_eq (k := 0 + C) hg
  have hJ0 : J = [] := List.eq_nil_of_length_eq_zero (by omega)
  subst hJ0
  rw [List.append_nil] at eJ
  have eh : h.put l (some ⟨rows, z, true⟩) = h := ah_ext rfl fun x => by
    show (if x = l then _ else h.get x) = h.get x
    split
    · rename_i e; rw [e, hg]
    · rfl
  rw [eJ, eh]
  have hl : l < h.n := hw.lt hg
  have hl2 : l2 < h.n := hw.lt h2
  have gt : ∀ o, (h.push o).get h.n = some o := fun o => AHeap.get_push_eq
  have len0 : (rows.take i ++ List.replicate (n + 1 - i) zr).length = n + 1 := by simp; omega
  have hd : (rows.drop i).length = n - i := by rw [List.length_drop, hr]
  have hne1 : rows.drop i ≠ [] := fun e => by rw [e] at hd; simp at hd; omega
  have len1 : (setRows (rows.take i ++ List.replicate (n + 1 - i) zr) i [cs]).length = n + 1 := by rw [setRows_length (by rw [len0]; simp; omega)]; exact len0
  refine ⟨by rw [get_rows hg (by omega), List.drop_zero], [cs], _, ?_, hcs, cpy_set (gt _) (by simp) (by rw [len0]; simp; omega), rows.drop i, _, ?_, hc.drop, cpy_set AHeap.get_put_eq hne1 (by rw [len1]; omega), rfl, ?_⟩
  · rw [get_rows ((AHeap.get_push_ne (by omega)).trans h2) (by simp)]; rfl
  · rw [get_rows ((AHeap.get_put_ne (by omega)).trans ((AHeap.get_push_ne (by omega)).trans hg)) (by omega), List.take_of_length_le (by rw [List.length_drop]; omega)]
  · refine ah_ext rfl fun x => ?_
    show (if x = l then none else if x = h.n then _ else if x = h.n then _ else if x = h.n then _ else h.get x) = if x = h.n then _ else if x = l then none else h.get x
    by_cases c1 : x = l
    · rw [if_pos c1, if_neg (by omega), if_pos c1]
    · rw [if_neg c1, if_neg c1]
      by_cases c2 : x = h.n
      · rw [if_pos c2, if_pos c2]
        congr 2
        apply List.ext_getElem?
        intro j
        rw [ins_get (by omega), setRows_get (by rw [len1]; omega), setRows_get (by rw [len0]; simp; omega)]
        have ht : (rows.take i).length = i := by rw [List.length_take]; omega
        by_cases d1 : j < i
        · rw [if_pos (by omega), if_pos d1, if_pos d1, List.getElem?_append_left (by omega), List.getElem?_take, if_pos d1]
        · rw [if_neg (show ¬ j < i from d1)]
          by_cases d2 : j = i
          · rw [if_pos (by omega), if_neg d1, if_pos (by simp; omega), if_pos d2, d2, Nat.sub_self]; rfl
          · rw [if_neg (by omega), if_neg d2]
            by_cases d3 : j < i + 1 + (rows.drop i).length
            · rw [if_pos d3, List.getElem?_drop, if_neg d1]; exact congrArg (fun k => rows[k]?) (by omega)
            · rw [if_neg d3, if_neg d1, if_neg (show ¬ j < i + [cs].length by simp; omega)]
              exact (List.getElem?_eq_none (by omega)).trans (List.getElem?_eq_none (by omega)).symm
      · rw [if_neg c2, if_neg c2, if_neg c2, if_neg c2]
theorem ins_end {α : Type} {xs : List α} {n : Nat} {x : α} (h : xs.length = n) : ins xs n x = xs ++ [x] := by
  unfold ins; rw [List.take_of_length_le (by omega), List.drop_eq_nil_of_le (by omega)]
theorem app_end {h : AHeap} {l z n : Nat} {rows : List (List Value)} {cs : List Value} (hg : h.get l = some ⟨rows, z, true⟩) (hr : rows.length = n) :
    h.app (.slice (some ⟨l, 0, some z⟩) n 0) [cs] z = some (.slice (some ⟨h.n, 0, some z⟩) (n + 1) 0, (h.put l none).push ⟨ins rows n cs, z, true⟩) := by
  unfold AHeap.app
  dsimp only
  rw [get_rows hg (by omega), List.drop_zero, List.take_of_length_le (by omega), hg, ins_end hr]
  simp
end Go.Dat
namespace Go.Abs
theorem acall_to {P : Program} {f : FuncId} {args : List Value} {h g : AHeap} {v : Value} (hx : ∃ v' h', ACall P f args h v' h' ∧ v' = v ∧ h' = g) : ACall P f args h v g := by
  obtain ⟨_, _, hA, rfl, rfl⟩ := hx; exact hA
end Go.Abs
end
section
namespace Go.Dat
open Go.Abs
def IdxRes (P : Nat → Prop) (n : Nat) (r : Int) : Prop := (r = -1 ∧ ∀ i, i < n → ¬ P i) ∨ ∃ i : Nat, i < n ∧ r = i ∧ P i ∧ ∀ j, j < i → ¬ P j
def SameV (x y : voteSh.T) : Prop := (show Int from x.1) = y.1 ∧ (show Int from x.2.1) = y.2.1 ∧ (show Int from x.2.2.1) = y.2.2.1 ∧ (show Int from x.2.2.2.2) = y.2.2.2.2
def VoteAt (xs : List voteSh.T) (y : voteSh.T) (i : Nat) : Prop := ∃ x : voteSh.T, xs[i]? = some x ∧ SameV x y
def VotOk (k v q : Int) (op : ByteArray) (f : Int) : Prop := (k = 2 ∨ k = 3) ∧ InR 0 7 v ∧ InR 1 6 q ∧ op.size ≤ 120 ∧ InR 0 3 f
end Go.Dat
namespace Go.Proofs.Ytanienlcebkijaa
open Go.Abs Go.Dat
set_option maxRecDepth 100000
set_option maxHeartbeats 8000000
end Go.Proofs.Ytanienlcebkijaa
end
section
namespace Go.Dat
open Go.Abs
def VtAt (xs : List voteSh.T) (i : Nat) : Prop := ∃ x : voteSh.T, xs[i]? = some x ∧ VotOk x.1 x.2.1 x.2.2.1 x.2.2.2.1 x.2.2.2.2 ∧ ∀ j, j < i → ¬ VoteAt xs x j
theorem VtAt.out {xs : List voteSh.T} {i : Nat} {k v q f : Int} {op : ByteArray} (H : VtAt xs i) (e : xs[i]? = some (k, v, q, op, f)) : VotOk k v q op f ∧ ∀ j, j < i → ¬ VoteAt xs (k, v, q, op, f) j := by
  obtain ⟨x, e', h1, h2⟩ := H
  rw [e] at e'
  cases e'
  exact ⟨h1, h2⟩
theorem IdxRes.low {P : Nat → Prop} {n : Nat} {r : Int} (H : IdxRes P n r) {i : Nat} (hi : i < n) (hP : P i) : (r < i ↔ ¬ ∀ j, j < i → ¬ P j) := by
  rcases H with ⟨_, h⟩ | ⟨m, hm, rfl, h1, h2⟩
  · exact absurd hP (h i hi)
  · constructor
    · intro hlt hn
      exact hn m (by omega) h1
    · intro hn
      refine Classical.byContradiction fun hge => hn fun j hj => h2 j (by omega)
theorem rows_take' {h : AHeap} {l r e n c i c' : Nat} {rows : List (List Value)} (hr : h.rowsOf (.slice (some ⟨l, r, some e⟩) n c) = some rows) (hi : i ≤ n) : h.rowsOf (.slice (some ⟨l, r, some e⟩) i c') = some (rows.take i) := by
  unfold AHeap.rowsOf at hr ⊢
  dsimp only at hr ⊢
  cases hg : h.get l with
  | none => rw [hg] at hr; cases hr
  | some o =>
    rw [hg] at hr
    dsimp only at hr ⊢
    cases h1 : o.esz == e with
    | false => rw [h1] at hr; cases hr
    | true =>
      rw [h1] at hr
      simp only [Bool.true_and] at hr ⊢
      by_cases h2 : r + n ≤ o.rows.length
      · rw [decide_eq_true h2] at hr
        rw [decide_eq_true (by omega : r + i ≤ o.rows.length)]
        cases hr
        show some _ = some _
        rw [List.take_take, Nat.min_eq_left hi]
      · rw [decide_eq_false h2] at hr; cases hr
theorem Sl.take {h : AHeap} {s : Sh} {xs : List s.T} {l r n c i c' : Nat} (x : Sl h s xs (.slice (some ⟨l, r, some s.cells⟩) n c)) (hi : i ≤ n) : Sl h s (xs.take i) (.slice (some ⟨l, r, some s.cells⟩) i c') := by
  obtain ⟨a', n', c'', rows, e, h1, h2, h3, h4⟩ := x
  cases e
  have up : ∀ {α : Type} {ys : List α} {j : Nat} {y : α}, (ys.take i)[j]? = some y → ys[j]? = some y := fun {_ ys j y} h => by
    rw [List.getElem?_take] at h
    split at h
    · exact h
    · cases h
  exact ⟨_, _, _, rows.take i, rfl, .inr ⟨_, _, rfl⟩, rows_take' h2 hi, by rw [List.length_take]; omega, fun j y row hy hr => h4 j y row (up hy) (up hr)⟩
theorem VoteAt.pre {xs : List voteSh.T} {y : voteSh.T} {i j : Nat} (hj : j < i) : VoteAt (xs.take i) y j ↔ VoteAt xs y j := by
  unfold VoteAt
  rw [List.getElem?_take, if_pos hj]
end Go.Dat
namespace Go.Proofs.Ytanienlcebkijaa
open Go.Abs Go.Dat
set_option maxRecDepth 100000
set_option maxHeartbeats 8000000
end Go.Proofs.Ytanienlcebkijaa
end
section
namespace Go.Dat
open Go.Abs
end Go.Dat
end
section
namespace Go.Dat
open Go.Abs
structure Cpy (s : Sh) (h0 h : AHeap) (xs : List s.T) (l c : Nat) (rows : List (List Value)) : Prop where
  le : h0.Le h
  wf : h.wf
  new : h0.n ≤ l
  get : h.get l = some ⟨rows, s.cells, true⟩
  len : rows.length = xs.length
  cap : c = 0 ∨ c = xs.length + 1
  rd : ∀ (i : Nat) (y : s.T) (row : List Value), xs[i]? = some y → rows[i]? = some row → s.rd h0 y row
structure OwI (s : Sh) (h0 : AHeap) (l : Nat) (xs : List s.T) (rows0 : List (List Value)) (i : Nat) (h : AHeap) (rows : List (List Value)) (idss : List (List Nat)) : Prop where
  hi : i ≤ xs.length
  wf0 : h0.wf
  wf : h.wf
  le : h0.Le h
  new : h0.n ≤ l
  get : h.get l = some ⟨rows, s.cells, true⟩
  len0 : rows0.length = xs.length
  len : rows.length = xs.length
  il : idss.length = i
  fr : Fresh h0.n h.n (l :: idss.flatten)
  rd0 : ∀ (j : Nat) (y : s.T) (row : List Value), xs[j]? = some y → rows0[j]? = some row → s.rd h0 y row
  done : ∀ (j : Nat) (y : s.T) (row : List Value) (js : List Nat), xs[j]? = some y → rows[j]? = some row → idss[j]? = some js → s.rn h y row js
  rest : ∀ j, i ≤ j → rows[j]? = rows0[j]?
theorem OwI.start {s : Sh} {h0 h : AHeap} {xs : List s.T} {l c : Nat} {rows : List (List Value)} (hw : h0.wf) (C : Cpy s h0 h xs l c rows) : OwI s h0 l xs rows 0 h rows [] :=
  ⟨Nat.zero_le _, hw, C.wf, C.le, C.new, C.get, C.len, C.len, rfl, ⟨by simp, fun z hz => by obtain rfl : z = l := (by simpa using hz); exact ⟨C.new, C.wf.lt C.get⟩⟩, C.rd, fun j y row js _ _ h => (by cases h), fun _ _ => rfl⟩
theorem fresh_add {a b c l : Nat} {i j : List Nat} (x : Fresh a b (l :: i)) (y : Fresh b c j) (hbc : b ≤ c) (hab : a ≤ b) : Fresh a c (l :: (i ++ j)) := x.append hab hbc y
theorem OwI.step {s : Sh} {h0 : AHeap} {l : Nat} {xs : List s.T} {rows0 : List (List Value)} {i : Nat} {h h1 : AHeap} {rows : List (List Value)} {idss : List (List Nat)} {y : s.T} {cs : List Value} {js : List Nat}
    (I : OwI s h0 l xs rows0 i h rows idss) (hy : xs[i]? = some y) (le : h.Le h1) (wf : h1.wf) (rn : s.rn h1 y cs js) (fj : Fresh h.n h1.n js) :
    OwI s h0 l xs rows0 (i + 1) (h1.put l (some ⟨rows.set i cs, s.cells, true⟩)) (rows.set i cs) (idss ++ [js]) := by
  have hil : i < xs.length := (List.getElem?_eq_some_iff.1 hy).1
  have hg := le.get _ _ I.get
  have hll := I.wf.lt I.get
  have ndl := List.nodup_cons.1 I.fr.nd
  have keep : ∀ z o, z ≠ l → h1.get z = some o → (h1.put l (some ⟨rows.set i cs, s.cells, true⟩)).get z = some o := fun z o hz ho => by rw [AHeap.get_put_ne hz]; exact ho
  have lenI := I.len
  have ilI := I.il
  refine ⟨hil, I.wf0, wf.put (wf.lt hg) _, (I.le.trans le).put (I.wf0 l I.new) _, I.new, AHeap.get_put_eq, I.len0, by rw [List.length_set]; exact I.len, by rw [List.length_append, I.il]; rfl, ?_, I.rd0, ?_, fun j hj => ?_⟩
  · rw [List.flatten_append, List.flatten_singleton]
    exact fresh_add I.fr fj le.n (by have := I.new; omega)
  · intro j z row q h1' h2 h3
    rcases getElem?_snoc h3 with ⟨hj, h3⟩ | ⟨hj, rfl⟩
    · rw [List.getElem?_set, if_neg (by omega)] at h2
      exact ((I.done j z row q h1' h2 h3).le le).keep (fun w hw' o => keep w o (fun e => ndl.1 (List.mem_flatten.2 ⟨q, List.mem_of_getElem? h3, e ▸ hw'⟩)))
    · rw [I.il] at hj
      subst hj
      rw [List.getElem?_set, if_pos rfl, if_pos (by omega)] at h2
      cases h2
      rw [hy] at h1'; cases h1'
      exact rn.keep (fun w hw' o => keep w o (fun e => by have := fj.bd w hw'; omega))
  · rw [List.getElem?_set, if_neg (by omega)]
    exact I.rest j (by omega)
theorem OwI.row {s : Sh} {h0 : AHeap} {l : Nat} {xs : List s.T} {rows0 : List (List Value)} {i : Nat} {h : AHeap} {rows : List (List Value)} {idss : List (List Nat)} {y : s.T}
    (I : OwI s h0 l xs rows0 i h rows idss) (hy : xs[i]? = some y) : ∃ row, rows[i]? = some row ∧ s.rd h0 y row ∧ h.ld l i 0 s.cells = some row := by
  have hil : i < xs.length := (List.getElem?_eq_some_iff.1 hy).1
  have hr : rows[i]? = some (rows[i]'(by rw [I.len]; exact hil)) := List.getElem?_eq_getElem _
  have rd := I.rd0 i y _ hy (by rw [← I.rest i (Nat.le_refl _)]; exact hr)
  refine ⟨_, hr, rd, ?_⟩
  have hc := Sh.rd_len rd
  unfold AHeap.ld
  rw [I.get]
  dsimp only
  rw [hr]
  dsimp only
  rw [decide_eq_true (by omega), cond_true, List.drop_zero, List.take_of_length_le (by omega)]
theorem OwI.sn {s : Sh} {h0 : AHeap} {l : Nat} {xs : List s.T} {rows0 : List (List Value)} {h : AHeap} {rows : List (List Value)} {idss : List (List Nat)} {c : Nat}
    (I : OwI s h0 l xs rows0 xs.length h rows idss) : Sn h s xs (.slice (some ⟨l, 0, some s.cells⟩) xs.length c) (l :: idss.flatten) :=
  ⟨_, _, c, rfl, rfl, .inr ⟨l, 0, rows, idss, rfl, I.get, by rw [I.len]; omega, I.il, rfl, fun i x row js h1 h2 h3 => I.done i x row js h1 (by rw [Nat.zero_add] at h2; exact h2) h3⟩⟩
end Go.Dat
end
section
namespace Go.Dat
open Go.Abs
structure CmpI (xs : List ByteArray) (k0 k2 k : Nat) (ys : List ByteArray) : Prop where
  len : ys.length = xs.length
  h0 : k0 ≤ k
  hk : k + 1 ≤ k0 + k2
  h2 : 1 ≤ k2
  hn : k0 + k2 ≤ xs.length
  same : ∀ p, k0 + k2 ≤ p + 1 → ys[p]? = xs[p]?
  mem : ∀ t, t ∈ ys.take k ↔ t ∈ xs.take (k0 + k2)
theorem take_succ_mem {α : Type} {xs : List α} {n : Nat} {x t : α} (h : xs[n]? = some x) : t ∈ xs.take (n + 1) ↔ t ∈ xs.take n ∨ t = x := by
  have hl := (List.getElem?_eq_some_iff.1 h).1
  have hx : xs[n] = x := by rw [List.getElem?_eq_getElem hl] at h; cases h; rfl
  rw [List.take_succ_eq_append_getElem hl, List.mem_append, List.mem_singleton, hx]
theorem mem_take_get {α : Type} {xs : List α} {n m : Nat} {x : α} (h : xs[n]? = some x) (hm : n < m) : x ∈ xs.take m := List.mem_of_getElem? (show (xs.take m)[n]? = some x by rw [List.getElem?_take, if_pos hm]; exact h)
theorem CmpI.start {xs : List ByteArray} {k0 : Nat} {x : ByteArray} (h1 : 1 ≤ k0) (ha : xs[k0 - 1]? = some x) (hb : xs[k0]? = some x) : CmpI xs k0 1 k0 xs := by
  have hl := (List.getElem?_eq_some_iff.1 hb).1
  refine ⟨rfl, Nat.le_refl _, Nat.le_refl _, Nat.le_refl _, by omega, fun _ _ => rfl, fun t => ?_⟩
  rw [take_succ_mem hb]
  exact ⟨.inl, fun h => h.elim id fun e => by rw [e]; exact mem_take_get ha (by omega)⟩
theorem CmpI.step {xs ys : List ByteArray} {k0 k2 k : Nat} {x : ByteArray} (I : CmpI xs k0 k2 k ys) (hb : xs[k0 + k2]? = some x) : CmpI xs k0 (k2 + 1) (k + 1) (ys.set k x) := by
  have hl := (List.getElem?_eq_some_iff.1 hb).1
  have h2 := I.h2
  have hk := I.hk
  have h0 := I.h0
  have hlen := I.len
  refine ⟨by rw [List.length_set]; exact I.len, by omega, by omega, by omega, by omega, fun p hp => ?_, fun t => ?_⟩
  · rw [List.getElem?_set, if_neg (by omega)]
    exact I.same p (by omega)
  · have hs : (ys.set k x)[k]? = some x := by rw [List.getElem?_set, if_pos rfl, if_pos (by omega)]
    rw [show k0 + (k2 + 1) = k0 + k2 + 1 by omega, take_succ_mem hb, take_succ_mem hs, ← I.mem, List.take_set_of_le (Nat.le_refl _)]
end Go.Dat
end
section
namespace Go.Dat
open Go.Abs
end Go.Dat
end
section
namespace Go.Dat
open Go.Abs
def ChAt (xs : List changeSh.T) (f v : Int) (i : Nat) : Prop := ∃ x : changeSh.T, xs[i]? = some x ∧ (show Int from x.1) = f ∧ (show Int from x.2.1) = v
def CgAt (xs : List changeSh.T) (i : Nat) : Prop := ∃ x : changeSh.T, xs[i]? = some x ∧ ChgOk x.1 x.2.1 x.2.2 ∧ ∀ j, j < i → ¬ ChAt xs x.1 x.2.1 j
theorem CgAt.out {xs : List changeSh.T} {i : Nat} {f v : Int} {p : List proofSh.T} (H : CgAt xs i) (e : xs[i]? = some (f, v, p)) : ChgOk f v p ∧ ∀ j, j < i → ¬ ChAt xs f v j := by
  obtain ⟨x, e', h1, h2⟩ := H
  rw [e] at e'
  cases e'
  exact ⟨h1, h2⟩
theorem ChAt.pre {xs : List changeSh.T} {f v : Int} {i j : Nat} (hj : j < i) : ChAt (xs.take i) f v j ↔ ChAt xs f v j := by
  unfold ChAt
  rw [List.getElem?_take, if_pos hj]
theorem IdxRes.none {P : Nat → Prop} {n : Nat} {r : Int} (H : IdxRes P n r) : r < 0 ↔ ∀ j, j < n → ¬ P j := by
  rcases H with ⟨rfl, h⟩ | ⟨m, hm, rfl, h1, h2⟩
  · exact ⟨fun _ => h, fun _ => by decide⟩
  · exact ⟨fun hlt => by omega, fun H => absurd h1 (H m hm)⟩
end Go.Dat
namespace Go.Proofs.Ytanienlcebkijaa
open Go.Abs Go.Dat
set_option maxRecDepth 100000
set_option maxHeartbeats 8000000
end Go.Proofs.Ytanienlcebkijaa
end
section
namespace Go.Dat
open Go.Abs
end Go.Dat
namespace Go.Proofs.Ytanienlcebkijaa
open Go.Abs Go.Dat
set_option maxRecDepth 100000
set_option maxHeartbeats 8000000
end Go.Proofs.Ytanienlcebkijaa
end
section
namespace Go.Proofs.Ytanienlcebkijaa
open Go.Abs Go.Dat
set_option maxRecDepth 100000
set_option maxHeartbeats 8000000
end Go.Proofs.Ytanienlcebkijaa
end
