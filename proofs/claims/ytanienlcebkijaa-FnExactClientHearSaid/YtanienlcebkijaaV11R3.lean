/- Lists that a reader reads: pure parsers, and lists that are built by append while the reader goes on. -/
import Derived.Test.YtanienlcebkijaaV11R2
import Derived.Test.YtanienlcebkijaaV11S1
namespace Go.Dat
open Go.Abs
structure Kp (J : List Nat) (g g' : AHeap) : Prop where
  n : g.n ≤ g'.n
  get : ∀ z o, z ∉ J → g.get z = some o → g'.get z = some o
theorem Kp.refl {J : List Nat} {g : AHeap} : Kp J g g := ⟨Nat.le_refl _, fun _ _ _ h => h⟩
theorem Kp.trans {J : List Nat} {a b c : AHeap} (x : Kp J a b) (y : Kp J b c) : Kp J a c := ⟨Nat.le_trans x.n y.n, fun z o hz h => y.get z o hz (x.get z o hz h)⟩
theorem Kp.widen {J K : List Nat} {a b : AHeap} (x : Kp J a b) (h : ∀ z ∈ J, z ∈ K) : Kp K a b := ⟨x.n, fun z o hz => x.get z o (fun e => hz (h z e))⟩
theorem Kp.of_le {J : List Nat} {a b : AHeap} (x : a.Le b) : Kp J a b := ⟨x.n, fun z o _ h => x.get z o h⟩
theorem Kp.drop {J K : List Nat} {a b c : AHeap} (w : a.wf) (x : Kp J a b) (y : Kp K b c) (h : ∀ z ∈ K, z ∈ J ∨ a.n ≤ z) : Kp J a c :=
  ⟨Nat.le_trans x.n y.n, fun z o hz ho => y.get z o (fun e => by
    rcases h z e with h1 | h1
    · exact hz h1
    · have := w.lt ho; omega) (x.get z o hz ho)⟩
theorem Kp.le {J : List Nat} {a b : AHeap} (w : a.wf) (x : Kp J a b) (h : ∀ z ∈ J, a.n ≤ z) : a.Le b := ⟨x.n, fun z o ho => x.get z o (fun e => by have := h z e; have := w.lt ho; omega) ho⟩
def E0 (n : Nat) : AHeap := ⟨n, fun _ => none⟩
theorem E0.le {n : Nat} {h : AHeap} (x : n ≤ h.n) : (E0 n).Le h := ⟨x, fun _ _ e => by cases e⟩
theorem E0.wf {n : Nat} : (E0 n).wf := fun _ _ => rfl
theorem SoB.new {s : Sh} {n : Nat} {h : AHeap} (hw : h.wf) (hn : n ≤ h.n) : SoB s (E0 n) h none 0 0 [] [] := ⟨E0.le hn, hw, E0.wf, rfl, .nil, .inl ⟨rfl, rfl, rfl, rfl⟩⟩
theorem Rd.bind {α β : Type} {p : Option (α × Nat)} {q : α → Nat → Option (β × Nat)} {t : ByteArray} {b b1 b2 : Bool} {x : α} {y : β} {a1 a2 : Nat} (h1 : Rd p t b x a1 b1) (h2 : Rd (q x a1) t b1 y a2 b2) : Rd (p.bind fun z => q z.1 z.2) t b y a2 b2 := by
  refine ⟨fun e => h2.bad (h1.bad e), fun e1 e2 => ?_, fun e1 e2 => ?_, h2.le⟩
  · have hb : b1 = false := by
      cases hb : b1 with
      | false => rfl
      | true => rw [h2.bad hb] at e2; cases e2
    rw [h1.ok e1 hb]; exact h2.ok hb e2
  · cases hb : b1 with
    | true => rw [h1.no e1 hb]; rfl
    | false => rw [h1.ok e1 hb]; exact h2.no hb e2
theorem Rd.pure {α : Type} {t : ByteArray} {b : Bool} {x : α} {a : Nat} (ha : a ≤ t.size) : Rd (some (x, a)) t b x a b := ⟨fun e => e, fun _ _ => rfl, fun e1 e2 => absurd (e1.symm.trans e2) (by decide), ha⟩
def pRep {α : Type} (p : Nat → Option (α × Nat)) : Nat → Nat → List α → Option (List α × Nat)
  | 0, a, xs => some (xs, a)
  | n + 1, a, xs => (p a).bind fun z => pRep p n z.2 (xs ++ [z.1])
structure RepI {α : Type} (p : Nat → Option (α × Nat)) (t : ByteArray) (N a0 : Nat) (b0 : Bool) (n : Nat) (xs : List α) (a : Nat) (b : Bool) : Prop where
  bad : b0 = true → b = true
  ok : b0 = false → b = false → pRep p N a0 [] = pRep p n a xs
  no : b0 = false → b = true → pRep p N a0 [] = none
  le : a ≤ t.size
  len : xs.length + n = N
theorem RepI.start {α : Type} {p : Nat → Option (α × Nat)} {t : ByteArray} {N a0 : Nat} {b0 : Bool} (ha : a0 ≤ t.size) : RepI p t N a0 b0 N [] a0 b0 := ⟨fun e => e, fun _ _ => rfl, fun e1 e2 => absurd (e1.symm.trans e2) (by decide), ha, by simp⟩
theorem RepI.step {α : Type} {p : Nat → Option (α × Nat)} {t : ByteArray} {N a0 : Nat} {b0 : Bool} {n : Nat} {xs : List α} {a a' : Nat} {b' : Bool} {x : α} (I : RepI p t N a0 b0 (n + 1) xs a false) (h : Rd (p a) t false x a' b') : RepI p t N a0 b0 n (xs ++ [x]) a' b' := by
  refine ⟨fun e => absurd (I.bad e) (by decide), fun e1 e2 => ?_, fun e1 e2 => ?_, h.le, by have := I.len; simp; omega⟩
  · rw [I.ok e1 rfl, pRep, h.ok rfl e2]; rfl
  · rw [I.ok e1 rfl, pRep, h.no rfl e2]; rfl
theorem RepI.finish {α : Type} {p : Nat → Option (α × Nat)} {t : ByteArray} {N a0 : Nat} {b0 : Bool} {n : Nat} {xs : List α} {a : Nat} {b : Bool} (I : RepI p t N a0 b0 n xs a b) (h : n = 0 ∨ b = true) : Rd (pRep p N a0 []) t b0 xs a b := by
  refine ⟨I.bad, fun e1 e2 => ?_, I.no, I.le⟩
  rcases h with rfl | h
  · exact I.ok e1 e2
  · exact absurd (e2.symm.trans h) (by decide)
def pGrp (t : ByteArray) (a : Nat) : Option (groupSh.T × Nat) := (pWord t a).bind fun z => (pNum t z.2).bind fun y => some ((z.1, y.1), y.2)
def pRp (t : ByteArray) (a : Nat) : Option (replySh.T × Nat) := (pNum t a).bind fun z1 => (pNum t z1.2).bind fun z2 => (pWord t z2.2).bind fun z3 => some ((z1.1, z2.1, z3.1), z3.2)
theorem Rd.grp {t : ByteArray} {a a1 a2 : Nat} {b b1 b2 : Bool} {s : ByteArray} {n : Int} (R1 : Rd (pWord t a) t b s a1 b1) (R2 : Rd (pNum t a1) t b1 n a2 b2) : Rd (pGrp t a) t b (s, n) a2 b2 :=
  R1.bind (q := fun s a1 => (pNum t a1).bind fun y => some ((s, y.1), y.2)) (R2.bind (q := fun n a2 => some ((s, n), a2)) (Rd.pure R2.le))
theorem Rd.rp {t : ByteArray} {a a1 a2 a3 : Nat} {b b1 b2 b3 : Bool} {c n : Int} {s : ByteArray} (R1 : Rd (pNum t a) t b c a1 b1) (R2 : Rd (pNum t a1) t b1 n a2 b2) (R3 : Rd (pWord t a2) t b2 s a3 b3) : Rd (pRp t a) t b (c, n, s) a3 b3 :=
  R1.bind (q := fun c a1 => (pNum t a1).bind fun z2 => (pWord t z2.2).bind fun z3 => some ((c, z2.1, z3.1), z3.2)) (R2.bind (q := fun n a2 => (pWord t a2).bind fun z3 => some ((c, n, z3.1), z3.2)) (R3.bind (q := fun s a3 => some ((c, n, s), a3)) (Rd.pure R3.le)))
end Go.Dat
