/- R3, T1. -/
import Derived.Test.YtpgfjadjhliohaaGreatV17R2
section
namespace Go.Dat
open Go.Abs
structure Kp (J : List Nat) (g g' : AHeap) : Prop where
  n : g.n ≤ g'.n
  get : ∀ z o, z ∉ J → g.get z = some o → g'.get z = some o
theorem Kp.refl {J : List Nat} {g : AHeap} : Kp J g g := ⟨Nat.le_refl _, fun _ _ _ h => h⟩
theorem Kp.trans {J : List Nat} {a b c : AHeap} (x : Kp J a b) (y : Kp J b c) : Kp J a c := ⟨Nat.le_trans x.n y.n, fun z o hz h => y.get z o hz (x.get z o hz h)⟩
theorem Kp.widen {J K : List Nat} {a b : AHeap} (x : Kp J a b) (h : ∀ z ∈ J, z ∈ K) : Kp K a b := ⟨x.n, fun z o hz => x.get z o (fun e => hz (h z e))⟩
theorem _root_.Go.Dat.Out.kp {J : List Nat} {a b : AHeap} (x : Out J a b) : Kp J a b := ⟨x.shp.n, x.get⟩
theorem Kp.of_le {J : List Nat} {a b : AHeap} (x : a.Le b) : Kp J a b := ⟨x.n, fun z o _ h => x.get z o h⟩
theorem Kp.drop {J K : List Nat} {a b c : AHeap} (w : a.wf) (x : Kp J a b) (y : Kp K b c) (h : ∀ z ∈ K, z ∈ J ∨ a.n ≤ z) : Kp J a c :=
  ⟨Nat.le_trans x.n y.n, fun z o hz ho => y.get z o (fun e => by
    rcases h z e with h1 | h1
    · exact hz h1
    · have := w.lt ho; omega) (x.get z o hz ho)⟩
theorem Kp.le {J : List Nat} {a b : AHeap} (w : a.wf) (x : Kp J a b) (h : ∀ z ∈ J, a.n ≤ z) : a.Le b := ⟨x.n, fun z o ho => x.get z o (fun e => by have := h z e; have := w.lt ho; omega) ho⟩
def E0 (n : Nat) : AHeap := ⟨n, fun _ => none⟩
theorem E0.le {n : Nat} {h : AHeap} (x : n ≤ h.n) : (E0 n).Le h := ⟨x, fun _ _ e => by cases e⟩
theorem E0.wf {n : Nat} : (E0 n).wf := fun _ _ => rfl
theorem SoB.new {s : Sh} {n : Nat} {h : AHeap} (hw : h.wf) (hn : n ≤ h.n) : SoB s (E0 n) h none 0 0 [] [] := ⟨E0.le hn, hw, E0.wf, rfl, .nil, .inl ⟨rfl, rfl, rfl, rfl⟩⟩
theorem SoB.kp {s : Sh} {n0 : Nat} {h h' : AHeap} {a : Option Addr} {n c : Nat} {xs : List s.T} {ids J : List Nat} (B : SoB s (E0 n0) h a n c xs ids) (k : Kp J h h') (wf : h'.wf) (hJ : ∀ z ∈ ids, z ∉ J) : SoB s (E0 n0) h' a n c xs ids :=
  B.step (E0.le (Nat.le_trans B.le.n k.n)) wf k.n (fun z hz o => k.get z o (hJ z hz))
theorem Sn.kp {s : Sh} {h h' : AHeap} {xs : List s.T} {v : Value} {ids J : List Nat} (x : Sn h s xs v ids) (k : Kp J h h') (hJ : ∀ z ∈ ids, z ∉ J) : Sn h' s xs v ids := x.keep (fun z hz o => k.get z o (hJ z hz))
theorem SoB.app' {s : Sh} {n0 : Nat} {h : AHeap} {a : Option Addr} {n c : Nat} {xs : List s.T} {ids js : List Nat} {x : s.T} {cs : List Value} (B : SoB s (E0 n0) h a n c xs ids) (rn : s.rn h x cs js) (fj : Fresh n0 h.n js) (d : ∀ z ∈ ids, z ∉ js) :
    ∃ l h' ids', h.app (.slice a n c) [cs] s.cells = some (.slice (some ⟨l, 0, some s.cells⟩) (n + 1) 0, h') ∧ SoB s (E0 n0) h' (some ⟨l, 0, some s.cells⟩) (n + 1) 0 (xs ++ [x]) ids' ∧ Kp ids h h' ∧ h'.wf ∧ ∀ z ∈ ids', z = h.n ∨ z ∈ ids ∨ z ∈ js := by
  obtain ⟨l, h', ids', e, B', hn, hm, hk⟩ := B.app rn fj d
  exact ⟨l, h', ids', e, B', ⟨hn, hk⟩, B'.wf, hm⟩
theorem Rd.bind {α β : Type} {p : Option (α × Nat)} {q : α → Nat → Option (β × Nat)} {t : ByteArray} {b b1 b2 : Bool} {x : α} {y : β} {a1 a2 : Nat} (h1 : Rd p t b x a1 b1) (h2 : Rd (q x a1) t b1 y a2 b2) : Rd (p.bind fun z => q z.1 z.2) t b y a2 b2 := by
  refine ⟨fun e => h2.bad (h1.bad e), fun e1 e2 => ?_, fun e1 e2 => ?_, h2.le⟩
  · have hb : b1 = false := by
      cases hb : b1 with
      | false => rfl
      | true => rw [h2.bad hb] at e2; cases e2
    rw [h1.ok e1 hb]; exact h2.ok hb e2
  · cases hb : b1 with
    | true => rw [h1.no e1 hb]; rfl
    | false => rw [h1.ok e1 hb]; exact h2.no hb e2
theorem Rd.pure {α : Type} {t : ByteArray} {b : Bool} {x : α} {a : Nat} (ha : a ≤ t.size) : Rd (some (x, a)) t b x a b := ⟨fun e => e, fun _ _ => rfl, fun e1 e2 => absurd (e1.symm.trans e2) (by decide), ha⟩
def pRep {α : Type} (p : Nat → Option (α × Nat)) : Nat → Nat → List α → Option (List α × Nat)
  | 0, a, xs => some (xs, a)
  | n + 1, a, xs => (p a).bind fun z => pRep p n z.2 (xs ++ [z.1])
structure RepI {α : Type} (p : Nat → Option (α × Nat)) (t : ByteArray) (N a0 : Nat) (b0 : Bool) (n : Nat) (xs : List α) (a : Nat) (b : Bool) : Prop where
  bad : b0 = true → b = true
  ok : b0 = false → b = false → pRep p N a0 [] = pRep p n a xs
  no : b0 = false → b = true → pRep p N a0 [] = none
  le : a ≤ t.size
  len : xs.length + n = N
theorem RepI.start {α : Type} {p : Nat → Option (α × Nat)} {t : ByteArray} {N a0 : Nat} {b0 : Bool} (ha : a0 ≤ t.size) : RepI p t N a0 b0 N [] a0 b0 := ⟨fun e => e, fun _ _ => rfl, fun e1 e2 => absurd (e1.symm.trans e2) (by decide), ha, by simp⟩
theorem RepI.step {α : Type} {p : Nat → Option (α × Nat)} {t : ByteArray} {N a0 : Nat} {b0 : Bool} {n : Nat} {xs : List α} {a a' : Nat} {b' : Bool} {x : α} (I : RepI p t N a0 b0 (n + 1) xs a false) (h : Rd (p a) t false x a' b') : RepI p t N a0 b0 n (xs ++ [x]) a' b' := by
  refine ⟨fun e => absurd (I.bad e) (by decide), fun e1 e2 => ?_, fun e1 e2 => ?_, h.le, by have := I.len; simp; omega⟩
  · rw [I.ok e1 rfl, pRep, h.ok rfl e2]; rfl
  · rw [I.ok e1 rfl, pRep, h.no rfl e2]; rfl
theorem RepI.finish {α : Type} {p : Nat → Option (α × Nat)} {t : ByteArray} {N a0 : Nat} {b0 : Bool} {n : Nat} {xs : List α} {a : Nat} {b : Bool} (I : RepI p t N a0 b0 n xs a b) (h : n = 0 ∨ b = true) : Rd (pRep p N a0 []) t b0 xs a b := by
  refine ⟨I.bad, fun e1 e2 => ?_, I.no, I.le⟩
  rcases h with rfl | h
  · exact I.ok e1 e2
  · exact absurd (e2.symm.trans h) (by decide)
def pGrp (t : ByteArray) (a : Nat) : Option (groupSh.T × Nat) := (pWord t a).bind fun z => (pNum t z.2).bind fun y => some ((z.1, y.1), y.2)
def pTop (t : ByteArray) (a : Nat) : Option (topicSh.T × Nat) := (pWord t a).bind fun z1 => (pNum t z1.2).bind fun z2 => (pMany 20 t z2.2).bind fun z3 => (pRep (pWord t) z3.1 z3.2 []).bind fun z4 => (pMany 4 t z4.2).bind fun z5 => (pRep (pGrp t) z5.1 z5.2 []).bind fun z6 => some ((z1.1, z2.1, z4.1, z6.1), z6.2)
theorem Rd.grp {t : ByteArray} {a a1 a2 : Nat} {b b1 b2 : Bool} {s : ByteArray} {n : Int} (R1 : Rd (pWord t a) t b s a1 b1) (R2 : Rd (pNum t a1) t b1 n a2 b2) : Rd (pGrp t a) t b (s, n) a2 b2 :=
  R1.bind (q := fun s a1 => (pNum t a1).bind fun y => some ((s, y.1), y.2)) (R2.bind (q := fun n a2 => some ((s, n), a2)) (Rd.pure R2.le))
theorem Rd.top {t : ByteArray} {a a1 a2 a3 a4 a5 a6 : Nat} {b b1 b2 b3 b4 b5 b6 : Bool} {nm : ByteArray} {bs : Int} {N3 N5 : Nat} {hs : List Sh.str.T} {gs : List groupSh.T} (R1 : Rd (pWord t a) t b nm a1 b1) (R2 : Rd (pNum t a1) t b1 bs a2 b2) (R3 : Rd (pMany 20 t a2) t b2 N3 a3 b3) (R4 : Rd (pRep (pWord t) N3 a3 []) t b3 hs a4 b4) (R5 : Rd (pMany 4 t a4) t b4 N5 a5 b5) (R6 : Rd (pRep (pGrp t) N5 a5 []) t b5 gs a6 b6) : Rd (pTop t a) t b (nm, bs, hs, gs) a6 b6 :=
  R1.bind (q := fun x1 e1 => (pNum t e1).bind fun z2 => (pMany 20 t z2.2).bind fun z3 => (pRep (pWord t) z3.1 z3.2 []).bind fun z4 => (pMany 4 t z4.2).bind fun z5 => (pRep (pGrp t) z5.1 z5.2 []).bind fun z6 => some ((x1, z2.1, z4.1, z6.1), z6.2))
    (R2.bind (q := fun x2 e2 => (pMany 20 t e2).bind fun z3 => (pRep (pWord t) z3.1 z3.2 []).bind fun z4 => (pMany 4 t z4.2).bind fun z5 => (pRep (pGrp t) z5.1 z5.2 []).bind fun z6 => some ((nm, x2, z4.1, z6.1), z6.2))
    (R3.bind (q := fun x3 e3 => (pRep (pWord t) x3 e3 []).bind fun z4 => (pMany 4 t z4.2).bind fun z5 => (pRep (pGrp t) z5.1 z5.2 []).bind fun z6 => some ((nm, bs, z4.1, z6.1), z6.2))
    (R4.bind (q := fun x4 e4 => (pMany 4 t e4).bind fun z5 => (pRep (pGrp t) z5.1 z5.2 []).bind fun z6 => some ((nm, bs, x4, z6.1), z6.2))
    (R5.bind (q := fun x5 e5 => (pRep (pGrp t) x5 e5 []).bind fun z6 => some ((nm, bs, hs, z6.1), z6.2))
    (R6.bind (q := fun x6 e6 => some ((nm, bs, hs, x6), e6)) (Rd.pure R6.le))))))
end Go.Dat
end
section
namespace Go.Dat
open Go.Abs
def AscAt {α : Type} (k : α → Int) (P : α → Prop) (xs : List α) (i : Nat) : Prop := ∃ x, xs[i]? = some x ∧ P x ∧ ∀ j, i = j + 1 → ∃ y, xs[j]? = some y ∧ k y < k x
def Asc {α : Type} (k : α → Int) (P : α → Prop) (xs : List α) : Prop := ∀ i, i < xs.length → AscAt k P xs i
theorem AscAt.mk0 {α : Type} {k : α → Int} {P : α → Prop} {xs : List α} {i : Nat} {x : α} (e : xs[i]? = some x) (h1 : P x) (hi0 : i = 0) : AscAt k P xs i := ⟨x, e, h1, fun j hj => by omega⟩
theorem AscAt.mk1 {α : Type} {k : α → Int} {P : α → Prop} {xs : List α} {i : Nat} {x y : α} (e : xs[i]? = some x) (h1 : P x) (e2 : xs[i - 1]? = some y) (h2 : k y < k x) : AscAt k P xs i := ⟨x, e, h1, fun j hj => ⟨y, by rw [← e2]; congr 1; omega, h2⟩⟩
theorem AscAt.out {α : Type} {k : α → Int} {P : α → Prop} {xs : List α} {i : Nat} {x : α} (H : AscAt k P xs i) (e : xs[i]? = some x) : P x ∧ ∀ y, 0 < i → xs[i - 1]? = some y → k y < k x := by
  obtain ⟨x', e', h1, h2⟩ := H
  rw [e] at e'
  cases e'
  refine ⟨h1, fun y hp e2 => ?_⟩
  obtain ⟨y', e3, h4⟩ := h2 (i - 1) (by omega)
  rw [e2] at e3
  cases e3
  exact h4
theorem Asc.mem {α : Type} {k : α → Int} {P : α → Prop} {xs : List α} (H : Asc k P xs) {x : α} (hx : x ∈ xs) : P x := by
  obtain ⟨i, hi⟩ := List.mem_iff_getElem?.1 hx
  exact ((H i (List.getElem?_eq_some_iff.1 hi).1).out hi).1
theorem Asc.low {α : Type} {k : α → Int} {P : α → Prop} {xs : List α} (H : Asc k P xs) {lo : Int} (hP : ∀ x, P x → lo ≤ k x) : ∀ (i : Nat) (x : α), xs[i]? = some x → lo + i ≤ k x
  | 0, x, e => by have := hP x ((H 0 (List.getElem?_eq_some_iff.1 e).1).out e).1; omega
  | i + 1, x, e => by
    have hi := (List.getElem?_eq_some_iff.1 e).1
    obtain ⟨y, hy⟩ : ∃ y, xs[i]? = some y := ⟨_, List.getElem?_eq_getElem (by omega)⟩
    have h1 := Asc.low H hP i y hy
    have h2 := ((H (i + 1) hi).out e).2 y (by omega) hy
    omega
theorem Asc.len {α : Type} {k : α → Int} {P : α → Prop} {xs : List α} (H : Asc k P xs) {lo hi : Int} (hP : ∀ x, P x → InR lo hi (k x)) (hb : lo ≤ hi + 1) : (xs.length : Int) ≤ hi - lo + 1 := by
  cases hl : xs.length with
  | zero => omega
  | succ n =>
    obtain ⟨x, hx⟩ : ∃ x, xs[n]? = some x := ⟨_, List.getElem?_eq_getElem (by omega)⟩
    have h1 := H.low (fun x h => (hP x h).1) n x hx
    have h2 := (hP x (H.mem (List.mem_of_getElem? hx))).2
    omega
theorem Asc.nil {α : Type} {k : α → Int} {P : α → Prop} : Asc k P [] := fun _ hi => absurd hi (Nat.not_lt_zero _)
theorem Asc.one {α : Type} {k : α → Int} {P : α → Prop} {x : α} : Asc k P [x] ↔ P x := ⟨fun H => H.mem (List.mem_singleton.2 rfl), fun h i hi => by
  obtain rfl : i = 0 := by simp at hi; omega
  exact .mk0 rfl h rfl⟩
def QuoOk (l : List Sh.int.T) : Prop := Asc (fun x : Int => x) (InR 0 3) l ∧ 3 ≤ l.length
def PrfOk (v q : Int) (op : ByteArray) (l : List Sh.int.T) : Prop := InR 0 7 v ∧ InR 1 6 q ∧ op.size ≤ 120 ∧ QuoOk l
def ChgOk (f v : Int) (ps : List proofSh.T) : Prop := InR 0 3 f ∧ InR 1 7 v ∧ Asc (fun p : proofSh.T => p.2.1) (fun p : proofSh.T => PrfOk p.1 p.2.1 p.2.2.1 p.2.2.2 ∧ (show Int from p.1) < v) ps
def ChgsOk (v : Int) (cs : List changeSh.T) : Prop := Asc (fun c : changeSh.T => c.1) (fun c : changeSh.T => ChgOk c.1 c.2.1 c.2.2 ∧ (show Int from c.2.1) = v) cs
def SayOk (k f v q : Int) (op : ByteArray) (cs : List changeSh.T) : Prop := InR 0 3 f ∧ InR 0 7 v ∧ ChgsOk v cs ∧
  ((InR 1 3 k ∧ InR 1 6 q ∧ op.size ≤ 120 ∧ cs.length = 0 ∧ (k = 1 → f = v % 4)) ∨ (k = 4 ∧ 1 ≤ v ∧ q = 0 ∧ op.size = 0 ∧ cs.length = 1 ∧ ∀ c : changeSh.T, cs[0]? = some c → (show Int from c.1) = f) ∨ (k = 5 ∧ 1 ≤ v ∧ f = v % 4 ∧ q = 0 ∧ op.size = 0 ∧ 3 ≤ cs.length))
theorem QuoOk.len {l : List Sh.int.T} (H : QuoOk l) : l.length ≤ 4 := by
  have := H.1.len (lo := 0) (hi := 3) (fun x h => h) (by omega)
  omega
theorem ChgOk.len {f v : Int} {ps : List proofSh.T} (H : ChgOk f v ps) : ps.length ≤ 6 := by
  have := Asc.len H.2.2 (lo := 1) (hi := 6) (fun x h => h.1.2.1) (by omega)
  omega
theorem ChgsOk.len {v : Int} {cs : List changeSh.T} (H : ChgsOk v cs) : cs.length ≤ 4 := by
  have := Asc.len H (lo := 0) (hi := 3) (fun x h => h.1.1) (by omega)
  omega
theorem inT {lo hi n : Int} (h : (decide (lo ≤ n) && decide (n ≤ hi)) = true) : InR lo hi n := by simpa [InR] using h
theorem inF {lo hi n : Int} (h : (decide (lo ≤ n) && decide (n ≤ hi)) = false) : ¬ InR lo hi n := fun H => by
  obtain ⟨h1, h2⟩ := H
  simp [h1, h2] at h
theorem upto_step {P : Nat → Prop} {i : Nat} (hall : ∀ j, j < i → P j) (hc : P i) : ∀ j, j < i + 1 → P j := fun j hj => by
  rcases Nat.lt_succ_iff_lt_or_eq.1 hj with hj | rfl
  · exact hall j hj
  · exact hc
theorem wrap_pred {i : Nat} (h0 : 0 < i) (h : i ≤ 9223372036854775807) : IntKind.i64.wrap ((i : Int) - 1) = ((i - 1 : Nat) : Int) := by rw [wrap_i64 (by omega)]; omega
theorem quo_dec {l : List Sh.int.T} (hall : ∀ j, j < l.length → AscAt (fun x : Int => x) (InR 0 3) l j) : decide ((l.length : Int) ≥ 3) = tr (QuoOk l) := by
  by_cases h : 3 ≤ l.length
  · rw [← tr_true (p := QuoOk l) ⟨hall, h⟩]; simp; omega
  · rw [← tr_false (p := QuoOk l) (fun H => h H.2)]; simp; omega
theorem tr_congr {p q : Prop} (h : p ↔ q) : tr p = tr q := congrArg tr (propext h)
theorem tr_dec {p : Prop} [Decidable p] : decide p = tr p := by
  by_cases h : p
  · rw [← tr_true h]; simp [h]
  · rw [← tr_false h]; simp [h]
theorem inr_tr {lo hi n : Int} : (decide (lo ≤ n) && decide (n ≤ hi)) = tr (InR lo hi n) := by
  rw [← Bool.decide_and, tr_dec]; rfl
theorem sz_tr {b : Bool} {n : Nat} (h : b = decide ((n : Int) ≤ 120)) : b = tr (n ≤ 120) := by
  rw [h, tr_dec]; exact tr_congr (by omega)
theorem bs_b {b : Bool} {A B : Prop} (h1 : b = true → A) (h2 : b = false → B) : bs b A B := by
  cases b with
  | true => exact h1 rfl
  | false => exact h2 rfl
end Go.Dat
namespace Go.Proofs.YtpgfjadjhliohaaGreat
open Go.Abs Go.Dat
set_option maxRecDepth 100000
set_option maxHeartbeats 8000000
def quL (l : List Sh.int.T) (a : Option Addr) (c : Nat) (h : AHeap) (hd : Nat → List (Nat × Value)) : LSpec where
  ι := Nat
  κ := Unit
  I := fun i => i ≤ l.length ∧ ∀ j, j < i → AscAt (fun x : Int => x) (InR 0 3) l j
  μ := fun i => l.length - i
  head := fun i => ⟨(0, .slice a l.length c) :: hd i, [], h⟩
  post := fun _ => ⟨[(0, .slice a l.length c)], [], h⟩
  R := fun _ _ => ∀ j, j < l.length → AscAt (fun x : Int => x) (InR 0 3) l j
  ret := fun _ v h' => v = .bool false ∧ h' = h ∧ ∃ j, j < l.length ∧ ¬ AscAt (fun x : Int => x) (InR 0 3) l j
def Q38 (a b : Prop) := True ∧ a ∧ b ∧ True
def Q39 := True ∧ True ∧ True
def Q3a (a : List Int) (b : Nat) := AscAt (fun (x : Int) => x) (InR 0 3) a b
def Q3b (a : Nat) (b : List (Sh.T Sh.int)) (c : List Int) (d : Nat) := a < List.length b → Q3a c d
def Q3c (a : Option Addr) (b : List (Sh.T Sh.int)) (c : Nat) := Value.slice a (List.length b) c
def Q3d (a : Option Addr) (b : List (Sh.T Sh.int)) (c : Nat) (d : Option Addr) (e : List (Sh.T Sh.int)) (f : Nat) := Q3c a b c = Q3c d e f
def Q3e (a : Option Addr) (b c : Nat) (d : Int) (e f : Prop) := a = some (Addr.mk b c (some 1)) ∧ 0 ≤ d ∧ e ∧ f
def Q3f (a : AHeap) (b c d : Nat) (e : List Value) (f : Prop) := AHeap.ld a b (c + d) 0 1 = some e ∧ f
def Q3g (a : Value) (b c : AHeap) (d : Prop) := a = Value.bool false ∧ b = c ∧ d
def Q3h (a : Nat) (b : List (Sh.T Sh.int)) (c : List Int) (d : Nat) := a < List.length b ∧ Not (Q3a c d)
def Q3i (a : List (Sh.T Sh.int)) (b : Nat) := List.length a - b
def Q3j (a : Nat) (b : List (Sh.T Sh.int)) (c : Prop) := a ≤ List.length b ∧ c
def Q3k (a : Int) := Value.int IntKind.i64 a
def Q3l (a : Int) := IntKind.wrap IntKind.i64 a
def Q3m (a : Int) (b : Nat) := Q3k (Q3l a) = Q3k (↑b : Int)
def Q3n (a b : AHeap) (c : Prop) := Value.bool false = Value.bool false ∧ a = b ∧ c
def Q3o (a : Nat) := (↑a : Int) - 1
def Q3p (a : List (Sh.T Sh.int)) := (↑(List.length a) : Int)
def Q3q (a : FuncId) (b : List Value) (c : AHeap) (d : Bool) (e : AHeap) := ACall Tryz.prog a b c (Value.bool d) e
def Q3r (a : Bool) (b : Prop) := Value.bool a = Value.bool (tr b)
def Q3s := Q3k 0
theorem quorumRight_spec (h : AHeap) (l : List Sh.int.T) (a : Option Addr) (c : Nat) (h1 : Sl h Sh.int l (.slice a l.length c)) (ok : (Sh.sl Sh.int).ok l) :
    ACall Tryz.prog 165 [.slice a l.length c] h (.bool (tr (QuoOk l))) h := by
  have n1 : l.length ≤ 9223372036854775807 := ok.1
  refine acall_out (acall_vc (fun _ => false) (fun r => match r with | 4 => [(0, 0, []), (1, 0, []), (2, 0, []), (3, 1, []), (4, 3, []), (5, 0, []), (6, 0, []), (7, 0, []), (8, 0, []), (9, 0, []), (10, 0, []), (11, 0, []), (12, 0, []), (13, 0, []), (15, 0, []), (16, 0, []), (17, 0, []), (14, 1, []), (18, 1, []), (19, 0, []), (20, 0, []), (21, 0, [])] | _ => []) (fun _ => quL l a c h fun i => [(3, .int .i64 i)]) mixed Tryz.func165 rfl rfl rfl (Nat.le_of_ble_eq_true rfl) ?_ ?_)
  · (refine vc_mp (by kernel_rfl : (Q38 (True ∧ (∀ (i : Nat), Q3j i l (∀ (j : Nat), j < i → Q3a l j) → bs (decide ((↑i : Int) < Q3p l)) (∃ (l_1 r : Nat), Q3e a l_1 r (↑i : Int) ((↑i : Int) < Q3p l) (∃ (x : Int), Q3f h l_1 r (Int.toNat (↑i : Int)) [Q3k x] (∃ (x_1 : Bool) (h' : AHeap), Q3q 76 [Q3k x] h x_1 h' ∧ bs (not x_1) (Q3n h' h (∃ (j : Nat), Q3h j l l j)) (bs (decide ((↑i : Int) > 0)) (∃ (l_2 r : Nat), Q3e a l_2 r (Q3l (Q3o i)) (Q3l (Q3o i) < Q3p l) (∃ (l_3 r_1 : Nat), Q3e a l_3 r_1 (↑i : Int) ((↑i : Int) < Q3p l) (∃ (x : Int), Q3f h' l_2 r (Int.toNat (Q3l (Q3o i))) [Q3k x] (∃ (x_2 : Int), Q3f h' l_3 r_1 (Int.toNat (↑i : Int)) [Q3k x_2] (bs (decide (x ≥ x_2)) (Q3n h' h (∃ (j : Nat), Q3h j l l j)) (∃ (j : Nat), Q3d a l c a l c ∧ Q3m ((↑i : Int) + 1) j ∧ h = h' ∧ Q3j j l (∀ (j_1 : Nat), j_1 < j → Q3a l j_1) ∧ Q3i l j < Q3i l i ∧ (∀ (k : Unit), (∀ (j : Nat), Q3b j l l j) → (∀ (j : Nat), Q3b j l l j)) ∧ (∀ (v : Value) (h_1 : AHeap), Q3g v h_1 h (∃ (j : Nat), Q3h j l l j) → Q3g v h_1 h (∃ (j : Nat), Q3h j l l j)))))))) (∃ (j : Nat), Q3d a l c a l c ∧ Q3m ((↑i : Int) + 1) j ∧ h = h' ∧ Q3j j l (∀ (j_1 : Nat), j_1 < j → Q3a l j_1) ∧ Q3i l j < Q3i l i ∧ (∀ (k : Unit), (∀ (j : Nat), Q3b j l l j) → (∀ (j : Nat), Q3b j l l j)) ∧ (∀ (v : Value) (h_1 : AHeap), Q3g v h_1 h (∃ (j : Nat), Q3h j l l j) → Q3g v h_1 h (∃ (j : Nat), Q3h j l l j))))))) (∃ (j : Unit), Q3d a l c a l c ∧ h = h ∧ (∀ (j : Nat), Q3b j l l j))) ∧ Q39 ∧ (True ∧ (True ∧ True) ∧ True) ∧ True) True) = _) ?_; delta Q38 Q39 Q3a Q3b Q3c Q3d Q3e Q3f Q3g Q3h Q3i Q3j Q3k Q3l Q3m Q3n Q3o Q3p Q3q)
    simp only [true_and, and_true]
    rintro (i : Nat) ⟨hi, hall⟩
    refine bs_d (fun hlt => ?_) (fun hge => ⟨(), fun j hj => hall j (by omega)⟩)
    have hio : i < l.length := by omega
    obtain ⟨x, hat⟩ : ∃ x : Int, l[i]? = some x := ⟨_, List.getElem?_eq_getElem hio⟩
    obtain ⟨lo, r, row, ha, _, hrd, hld⟩ := h1.elem hat
    obtain rfl := hrd
    refine ⟨lo, r, ha, Int.natCast_nonneg _, hlt, _, hld, _, _, l09Who_spec _ _, bs_nb (fun e => ⟨rfl, i, hio, fun H => inF e (H.out hat).1⟩) (fun e1 => bs_d (fun hpos => ?_) (fun hpos => ?_))⟩
    · rw [wrap_pred (i := i) (by omega) (by omega)]
      obtain ⟨y, hat2⟩ : ∃ y : Int, l[i - 1]? = some y := ⟨_, List.getElem?_eq_getElem (by omega)⟩
      obtain ⟨lo', r', row', ha', _, hrd', hld'⟩ := h1.elem hat2
      obtain rfl := hrd'
      refine ⟨lo', r', ha', Int.natCast_nonneg _, by omega, lo, r, ha, Int.natCast_nonneg _, hlt, _, hld', _, hld, bs_d (fun e => ⟨rfl, i, hio, fun H => ?_⟩) (fun e2 => ?_)⟩
      · have h2 : y < x := (H.out hat).2 y (by omega) hat2
        omega
      · exact ⟨i + 1, by rw [wrap_i64 (by omega)]; rfl, rfl, ⟨by omega, upto_step hall (.mk1 hat (inT e1) hat2 (by show y < x; omega))⟩, by omega, fun _ h => h, fun _ _ h => h⟩
    · exact ⟨i + 1, by rw [wrap_i64 (by omega)]; rfl, rfl, ⟨by omega, upto_step hall (.mk0 hat (inT e1) (by omega))⟩, by omega, fun _ h => h, fun _ _ h => h⟩
  (refine vc_mp (by kernel_rfl : (∃ (i : Nat), Q3d a l c a l c ∧ Q3s = Q3k (↑i : Int) ∧ h = h ∧ Q3j i l (∀ (j : Nat), j < i → Q3a l j) ∧ (∀ (j : Unit), (∀ (j : Nat), Q3b j l l j) → Q3r (decide (Q3p l ≥ 3)) (QuoOk l) ∧ h = h) ∧ (∀ (v : Value) (h_1 : AHeap), Q3g v h_1 h (∃ (j : Nat), Q3h j l l j) → v = Value.bool (tr (QuoOk l)) ∧ h_1 = h)) = _) ?_; delta Q3a Q3b Q3c Q3d Q3g Q3h Q3j Q3k Q3p Q3r Q3s)
  refine ⟨(0 : Nat), rfl, rfl, rfl, ⟨Nat.zero_le _, fun j hj => absurd hj (Nat.not_lt_zero _)⟩, fun _ hall => ⟨congrArg _ ?_, rfl⟩, fun v h1 ⟨e1, e2, j, hj, hn⟩ => ⟨e1.trans (congrArg _ (tr_false fun H => hn (H.1 j hj))), e2⟩⟩
  exact quo_dec hall
theorem isQuorum_spec (h : AHeap) (l : List Sh.int.T) (a : Option Addr) (c : Nat) (h1 : Sl h Sh.int l (.slice a l.length c)) (ok : (Sh.sl Sh.int).ok l) :
    ACall Tryz.prog 159 [.slice a l.length c] h (.bool (tr (QuoOk l))) h := by
  have n1 : l.length ≤ 9223372036854775807 := ok.1
  refine acall_out (acall_vc (fun _ => false) (fun _ => []) (fun _ => quL l a c h fun i => [(5, .slice a l.length c), (6, .int .i64 l.length), (7, .int .i64 i)]) mixed Tryz.func159 rfl rfl rfl (Nat.le_of_ble_eq_true rfl) ?_ ?_)
  · (refine vc_mp (by kernel_rfl : (Q38 (True ∧ (∀ (i : Nat), Q3j i l (∀ (j : Nat), j < i → Q3a l j) → bs (decide ((↑i : Int) < Q3p l)) (∃ (l_1 r : Nat), Q3e a l_1 r (↑i : Int) ((↑i : Int) < Q3p l) (∃ (x : Int), Q3f h l_1 r (Int.toNat (↑i : Int)) [Q3k x] (∃ (x_1 : Bool) (h' : AHeap), Q3q 86 [Q3k x] h x_1 h' ∧ bs (not x_1) (Q3n h' h (∃ (j : Nat), Q3h j l l j)) (bs (decide ((↑i : Int) > 0)) (∃ (l_2 r : Nat), Q3e a l_2 r (Q3l (Q3o i)) (Q3l (Q3o i) < Q3p l) (∃ (x_2 : Int), Q3f h' l_2 r (Int.toNat (Q3l (Q3o i))) [Q3k x_2] (bs (decide (x_2 ≥ x)) (Q3n h' h (∃ (j : Nat), Q3h j l l j)) (∃ (j : Nat), Q3d a l c a l c ∧ Q3d a l c a l c ∧ Q3k (Q3p l) = Q3k (Q3p l) ∧ Q3m ((↑i : Int) + 1) j ∧ h = h' ∧ Q3j j l (∀ (j_1 : Nat), j_1 < j → Q3a l j_1) ∧ Q3i l j < Q3i l i ∧ (∀ (k : Unit), (∀ (j : Nat), Q3b j l l j) → (∀ (j : Nat), Q3b j l l j)) ∧ (∀ (v : Value) (h_1 : AHeap), Q3g v h_1 h (∃ (j : Nat), Q3h j l l j) → Q3g v h_1 h (∃ (j : Nat), Q3h j l l j)))))) (∃ (j : Nat), Q3d a l c a l c ∧ Q3d a l c a l c ∧ Q3k (Q3p l) = Q3k (Q3p l) ∧ Q3m ((↑i : Int) + 1) j ∧ h = h' ∧ Q3j j l (∀ (j_1 : Nat), j_1 < j → Q3a l j_1) ∧ Q3i l j < Q3i l i ∧ (∀ (k : Unit), (∀ (j : Nat), Q3b j l l j) → (∀ (j : Nat), Q3b j l l j)) ∧ (∀ (v : Value) (h_1 : AHeap), Q3g v h_1 h (∃ (j : Nat), Q3h j l l j) → Q3g v h_1 h (∃ (j : Nat), Q3h j l l j))))))) (∃ (j : Unit), Q3d a l c a l c ∧ h = h ∧ (∀ (j : Nat), Q3b j l l j))) ∧ Q38 (True ∧ True) (Q38 True (True ∧ True))) True) = _) ?_; delta Q38 Q3a Q3b Q3c Q3d Q3e Q3f Q3g Q3h Q3i Q3j Q3k Q3l Q3m Q3n Q3o Q3p Q3q)
    simp only [true_and, and_true]
    rintro (i : Nat) ⟨hi, hall⟩
    refine bs_d (fun hlt => ?_) (fun hge => ⟨(), fun j hj => hall j (by omega)⟩)
    have hio : i < l.length := by omega
    obtain ⟨x, hat⟩ : ∃ x : Int, l[i]? = some x := ⟨_, List.getElem?_eq_getElem hio⟩
    obtain ⟨lo, r, row, ha, _, hrd, hld⟩ := h1.elem hat
    obtain rfl := hrd
    refine ⟨lo, r, ha, Int.natCast_nonneg _, hlt, _, hld, _, _, isReplica_spec _ _, bs_nb (fun e => ⟨rfl, i, hio, fun H => inF e (H.out hat).1⟩) (fun e1 => bs_d (fun hpos => ?_) (fun hpos => ?_))⟩
    · rw [wrap_pred (i := i) (by omega) (by omega)]
      obtain ⟨y, hat2⟩ : ∃ y : Int, l[i - 1]? = some y := ⟨_, List.getElem?_eq_getElem (by omega)⟩
      obtain ⟨lo', r', row', ha', _, hrd', hld'⟩ := h1.elem hat2
      obtain rfl := hrd'
      refine ⟨lo', r', ha', Int.natCast_nonneg _, by omega, _, hld', bs_d (fun e => ⟨rfl, i, hio, fun H => ?_⟩) (fun e2 => ?_)⟩
      · have h2 : y < x := (H.out hat).2 y (by omega) hat2
        omega
      · exact ⟨i + 1, by rw [wrap_i64 (by omega)]; rfl, rfl, ⟨by omega, upto_step hall (.mk1 hat (inT e1) hat2 (by show y < x; omega))⟩, by omega, fun _ h => h, fun _ _ h => h⟩
    · exact ⟨i + 1, by rw [wrap_i64 (by omega)]; rfl, rfl, ⟨by omega, upto_step hall (.mk0 hat (inT e1) (by omega))⟩, by omega, fun _ h => h, fun _ _ h => h⟩
  (refine vc_mp (by kernel_rfl : (∃ (i : Nat), Q3d a l c a l c ∧ Q3d a l c a l c ∧ Q3k (Q3p l) = Q3k (Q3p l) ∧ Q3s = Q3k (↑i : Int) ∧ h = h ∧ Q3j i l (∀ (j : Nat), j < i → Q3a l j) ∧ (∀ (j : Unit), (∀ (j : Nat), Q3b j l l j) → Q3r (decide (Q3p l ≥ 3)) (QuoOk l) ∧ h = h) ∧ (∀ (v : Value) (h_1 : AHeap), Q3g v h_1 h (∃ (j : Nat), Q3h j l l j) → v = Value.bool (tr (QuoOk l)) ∧ h_1 = h)) = _) ?_; delta Q3a Q3b Q3c Q3d Q3g Q3h Q3j Q3k Q3p Q3r Q3s)
  refine ⟨(0 : Nat), rfl, rfl, rfl, rfl, rfl, ⟨Nat.zero_le _, fun j hj => absurd hj (Nat.not_lt_zero _)⟩, fun _ hall => ⟨congrArg _ ?_, rfl⟩, fun v h1 ⟨e1, e2, j, hj, hn⟩ => ⟨e1.trans (congrArg _ (tr_false fun H => hn (H.1 j hj))), e2⟩⟩
  exact quo_dec hall
theorem l10View_spec (h : AHeap) (n : Int) : ACall Tryz.prog 77 [.int .i64 n] h (.bool (tr (InR 0 7 n))) h := by
  refine acall_out (acall_vc (fun _ => false) (fun _ => []) (fun _ => .none) mixed Tryz.func77 rfl rfl rfl (Nat.le_of_ble_eq_true rfl) (by (refine vc_mp (by kernel_rfl : (Q39) = _) ?_; delta Q39); simp only [and_self]) ?_)
  (refine vc_mp (by kernel_rfl : (∃ (x : Bool) (h' : AHeap), Q3q 78 [Q3k n, Q3s, Q3k 7] h x h' ∧ Q3r x (InR 0 7 n) ∧ h' = h) = _) ?_; delta Q3k Q3q Q3r Q3s)
  exact ⟨_, _, l03Is_spec _ _ _ _, congrArg _ inr_tr, rfl⟩
theorem l10Seq_spec (h : AHeap) (n : Int) : ACall Tryz.prog 117 [.int .i64 n] h (.bool (tr (InR 1 6 n))) h := by
  refine acall_out (acall_vc (fun _ => false) (fun _ => []) (fun _ => .none) mixed Tryz.func117 rfl rfl rfl (Nat.le_of_ble_eq_true rfl) (by (refine vc_mp (by kernel_rfl : (Q39) = _) ?_; delta Q39); simp only [and_self]) ?_)
  (refine vc_mp (by kernel_rfl : (∃ (x : Bool) (h' : AHeap), Q3q 78 [Q3k n, Q3k 1, Q3k 6] h x h' ∧ Q3r x (InR 1 6 n) ∧ h' = h) = _) ?_; delta Q3k Q3q Q3r)
  exact ⟨_, _, l03Is_spec _ _ _ _, congrArg _ inr_tr, rfl⟩
theorem isView_spec (h : AHeap) (n lo : Int) : ACall Tryz.prog 87 [.int .i64 n, .int .i64 lo] h (.bool (tr (InR lo 7 n))) h := by
  refine acall_out (acall_vc (fun _ => false) (fun _ => []) (fun _ => .none) mixed Tryz.func87 rfl rfl rfl (Nat.le_of_ble_eq_true rfl) (by (refine vc_mp (by kernel_rfl : (Q39) = _) ?_; delta Q39); simp only [and_self]) ?_)
  (refine vc_mp (by kernel_rfl : (∃ (x : Bool) (h' : AHeap), Q3q 88 [Q3k n, Q3k lo, Q3k 7] h x h' ∧ Q3r x (InR lo 7 n) ∧ h' = h) = _) ?_; delta Q3k Q3q Q3r)
  exact ⟨_, _, within_spec _ _ _ _, congrArg _ inr_tr, rfl⟩
theorem isSeq_spec (h : AHeap) (n : Int) : ACall Tryz.prog 123 [.int .i64 n] h (.bool (tr (InR 1 6 n))) h := by
  refine acall_out (acall_vc (fun _ => false) (fun _ => []) (fun _ => .none) mixed Tryz.func123 rfl rfl rfl (Nat.le_of_ble_eq_true rfl) (by (refine vc_mp (by kernel_rfl : (Q39) = _) ?_; delta Q39); simp only [and_self]) ?_)
  (refine vc_mp (by kernel_rfl : (∃ (x : Bool) (h' : AHeap), Q3q 88 [Q3k n, Q3k 1, Q3k 6] h x h' ∧ Q3r x (InR 1 6 n) ∧ h' = h) = _) ?_; delta Q3k Q3q Q3r)
  exact ⟨_, _, within_spec _ _ _ _, congrArg _ inr_tr, rfl⟩
theorem opRight_spec (h : AHeap) (t : ByteArray) : ACall Tryz.prog 50 [.string t] h (.bool (tr (t.size ≤ 120))) h := by
  refine acall_out (acall_vc (fun _ => false) (fun _ => []) (fun _ => .none) mixed Tryz.func50 rfl rfl rfl (Nat.le_of_ble_eq_true rfl) (by (refine vc_mp (by kernel_rfl : (Q39) = _) ?_; delta Q39); simp only [and_self]) ?_)
  (refine vc_mp (by kernel_rfl : (Q3r (decide ((↑(ByteArray.size t) : Int) ≤ 120)) (ByteArray.size t ≤ 120) ∧ h = h) = _) ?_; delta Q3r)
  exact ⟨congrArg _ (sz_tr rfl), rfl⟩
theorem isOp_spec (h : AHeap) (t : ByteArray) : ACall Tryz.prog 56 [.string t] h (.bool (tr (t.size ≤ 120))) h := by
  refine acall_out (acall_vc (fun _ => false) (fun _ => []) (fun _ => .none) mixed Tryz.func56 rfl rfl rfl (Nat.le_of_ble_eq_true rfl) (by (refine vc_mp (by kernel_rfl : (Q39) = _) ?_; delta Q39); simp only [and_self]) ?_)
  (refine vc_mp (by kernel_rfl : (Q3r (decide ((↑(ByteArray.size t) : Int) ≤ 120)) (ByteArray.size t ≤ 120) ∧ h = h) = _) ?_; delta Q3r)
  exact ⟨congrArg _ (sz_tr rfl), rfl⟩
def Q3t := (4 : Int)
theorem specLeader (h : AHeap) (n : Int) (hn : 0 ≤ n) : ACall Tryz.prog 33 [.int .i64 n] h (.int .i64 (n % 4)) h := by
  refine acall_out (acall_vc (fun _ => false) (fun _ => []) (fun _ => .none) mixed Tryz.func33 rfl rfl rfl (Nat.le_of_ble_eq_true rfl) (by (refine vc_mp (by kernel_rfl : (Q38 (True ∧ (True ∧ True) ∧ True) True) = _) ?_; delta Q38); simp only [and_self]) ?_)
  (refine vc_mp (by kernel_rfl : (bs (decide (n < 0)) (Q3s = Q3k (n % Q3t) ∧ h = h) (Q3t ≠ 0 ∧ Q3k (Int.tmod n Q3t) = Q3k (n % Q3t) ∧ h = h)) = _) ?_; delta Q3k Q3s Q3t)
  exact bs_d (fun e => by omega) (fun _ => ⟨by decide, by rw [Int.tmod_eq_emod_of_nonneg hn], rfl⟩)
theorem leader_spec (h : AHeap) (n : Int) (hn : 0 ≤ n) : ACall Tryz.prog 96 [.int .i64 n] h (.int .i64 (n % 4)) h := by
  refine acall_out (acall_vc (fun _ => false) (fun _ => []) (fun _ => .none) mixed Tryz.func96 rfl rfl rfl (Nat.le_of_ble_eq_true rfl) (by (refine vc_mp (by kernel_rfl : (Q38 (True ∧ (True ∧ True) ∧ True) True) = _) ?_; delta Q38); simp only [and_self]) ?_)
  (refine vc_mp (by kernel_rfl : (bs (decide (n < 0)) (Q3s = Q3k (n % Q3t) ∧ h = h) (Q3t ≠ 0 ∧ Q3k (Int.tmod n Q3t) = Q3k (n % Q3t) ∧ h = h)) = _) ?_; delta Q3k Q3s Q3t)
  exact bs_d (fun e => by omega) (fun _ => ⟨by decide, by rw [Int.tmod_eq_emod_of_nonneg hn], rfl⟩)
def Q3u (a : FuncId) (b : List Value) (c : AHeap) (d : Bool) (e : AHeap) (f : Bool) (g : Prop) (h i : Int) (j : ByteArray) (k : List (Sh.T Sh.int)) (l m : AHeap) := Q3q a b c d e ∧ bs f g (Q3r false (PrfOk h i j k) ∧ l = m)
theorem proofRight_spec (h : AHeap) (v q : Int) (op : ByteArray) (l : List Sh.int.T) (a : Option Addr) (c : Nat) (h1 : Sl h Sh.int l (.slice a l.length c)) (ok : (Sh.sl Sh.int).ok l) :
    ACall Tryz.prog 153 [.agg #[.int .i64 v, .int .i64 q, .string op, .slice a l.length c]] h (.bool (tr (PrfOk v q op l))) h := by
  refine acall_out (acall_vc (fun _ => false) (fun _ => []) (fun _ => .none) mixed Tryz.func153 rfl rfl rfl (Nat.le_of_ble_eq_true rfl) (by (refine vc_mp (by kernel_rfl : (Q39) = _) ?_; delta Q39); simp only [and_self]) ?_)
  (refine vc_mp (by kernel_rfl : (∃ (x : Bool) (h' : AHeap), Q3u 77 [Q3k v] h x h' x (∃ (x : Bool) (h'_1 : AHeap), Q3u 117 [Q3k q] h' x h'_1 x (∃ (x : Bool) (h' : AHeap), Q3u 50 [Value.string op] h'_1 x h' x (∃ (x : Bool) (h'_2 : AHeap), Q3q 165 [Q3c a l c] h' x h'_2 ∧ Q3r x (PrfOk v q op l) ∧ h'_2 = h) v q op l h' h) v q op l h'_1 h) v q op l h' h) = _) ?_; delta Q3c Q3k Q3q Q3r Q3u)
  refine ⟨_, _, l10View_spec _ _, bs_b (fun e1 => ?_) (fun e => ⟨congrArg _ (tr_false fun H => of_trn e H.1), rfl⟩)⟩
  refine ⟨_, _, l10Seq_spec _ _, bs_b (fun e2 => ?_) (fun e => ⟨congrArg _ (tr_false fun H => of_trn e H.2.1), rfl⟩)⟩
  refine ⟨_, _, opRight_spec _ _, bs_b (fun e3 => ?_) (fun e => ⟨congrArg _ (tr_false fun H => of_trn e H.2.2.1), rfl⟩)⟩
  exact ⟨_, _, quorumRight_spec _ l a c h1 ok, congrArg _ (tr_congr ⟨fun H => ⟨of_tr e1, of_tr e2, of_tr e3, H⟩, fun H => H.2.2.2⟩), rfl⟩
theorem isProof_spec (h : AHeap) (v q : Int) (op : ByteArray) (l : List Sh.int.T) (a : Option Addr) (c : Nat) (h1 : Sl h Sh.int l (.slice a l.length c)) (ok : (Sh.sl Sh.int).ok l) :
    ACall Tryz.prog 135 [.agg #[.int .i64 v, .int .i64 q, .string op, .slice a l.length c]] h (.bool (tr (PrfOk v q op l))) h := by
  refine acall_out (acall_vc (fun _ => false) (fun _ => []) (fun _ => .none) mixed Tryz.func135 rfl rfl rfl (Nat.le_of_ble_eq_true rfl) (by (refine vc_mp (by kernel_rfl : (Q39) = _) ?_; delta Q39); simp only [and_self]) ?_)
  (refine vc_mp (by kernel_rfl : (∃ (x : Bool) (h' : AHeap), Q3u 87 [Q3k v, Q3s] h x h' x (∃ (x : Bool) (h'_1 : AHeap), Q3u 123 [Q3k q] h' x h'_1 x (∃ (x : Bool) (h' : AHeap), Q3u 56 [Value.string op] h'_1 x h' x (∃ (x : Bool) (h'_2 : AHeap), Q3q 159 [Q3c a l c] h' x h'_2 ∧ Q3r x (PrfOk v q op l) ∧ h'_2 = h) v q op l h' h) v q op l h'_1 h) v q op l h' h) = _) ?_; delta Q3c Q3k Q3q Q3r Q3s Q3u)
  refine ⟨_, _, isView_spec _ _ _, bs_b (fun e1 => ?_) (fun e => ⟨congrArg _ (tr_false fun H => of_trn e H.1), rfl⟩)⟩
  refine ⟨_, _, isSeq_spec _ _, bs_b (fun e2 => ?_) (fun e => ⟨congrArg _ (tr_false fun H => of_trn e H.2.1), rfl⟩)⟩
  refine ⟨_, _, isOp_spec _ _, bs_b (fun e3 => ?_) (fun e => ⟨congrArg _ (tr_false fun H => of_trn e H.2.2.1), rfl⟩)⟩
  exact ⟨_, _, isQuorum_spec _ l a c h1 ok, congrArg _ (tr_congr ⟨fun H => ⟨of_tr e1, of_tr e2, of_tr e3, H⟩, fun H => H.2.2.2⟩), rfl⟩
end Go.Proofs.YtpgfjadjhliohaaGreat
end
