/- Loops over rows of data: copies, sizes, equality. -/
import Derived.Test.YtanienlcebkijaaV11A26
namespace Go.Dat
open Go.Abs
structure ToI (s : Sh) (z : List Value) (n : Nat) (h : AHeap) (xs : List s.T) (i : Nat) (h1 : AHeap) (rows : List (List Value)) (idss : List (List Nat)) : Prop where
  hi : i ≤ n
  wf : h1.wf
  le : h.Le h1
  new : h.get h.n = none
  lt : h.n < h1.n
  get : h1.get h.n = some ⟨rows, s.cells, true⟩
  len : rows.length = n
  zlen : z.length = s.cells
  il : idss.length = i
  fr : Fresh (h.n + 1) h1.n idss.flatten
  done : ∀ (j : Nat) (x : s.T) (row : List Value) (js : List Nat), xs[j]? = some x → rows[j]? = some row → idss[j]? = some js → s.ro h1 x row js
  rest : ∀ j, i ≤ j → j < n → rows[j]? = some z
theorem getElem?_snoc {α : Type} {l : List α} {a b : α} {i : Nat} (h : (l ++ [a])[i]? = some b) : (i < l.length ∧ l[i]? = some b) ∨ (i = l.length ∧ b = a) := by
  rcases Nat.lt_or_ge i l.length with hi | hi
  · rw [List.getElem?_append_left hi] at h; exact .inl ⟨hi, h⟩
  · rw [List.getElem?_append_right hi] at h
    right
    cases hk : i - l.length with
    | zero => rw [hk] at h; simp at h; exact ⟨by omega, h.symm⟩
    | succ k => rw [hk] at h; simp at h
theorem ToI.step {s : Sh} {z : List Value} {n : Nat} {h : AHeap} {xs : List s.T} {i : Nat} {h1 h2 : AHeap} {rows : List (List Value)} {idss : List (List Nat)} {x : s.T} {cs : List Value} {ids : List Nat}
    (I : ToI s z n h xs i h1 rows idss) (hi : i < n) (hx : xs[i]? = some x) (hle : h1.Le h2) (hw2 : h2.wf) (hro : s.ro h2 x cs ids) (hf : Fresh h1.n h2.n ids) :
    ∃ h3, h2.wr h.n (0 + (i : Int).toNat) 0 cs = some h3 ∧ ToI s z n h xs (i + 1) h3 (rows.set i cs) (idss ++ [ids]) := by
  have hg2 := hle.get _ _ I.get
  have hz := I.rest i (Nat.le_refl _) hi
  have hcs : cs.length = s.cells := Sh.rd_len hro.rd
  refine ⟨h2.put h.n (some ⟨rows.set i cs, s.cells, true⟩), ?_, ?_⟩
  · unfold AHeap.wr
    rw [hg2]
    dsimp only
    have e : 0 + (i : Int).toNat = i := by omega
    rw [e, hz]
    have e2 : setRange z 0 cs = cs := setRange_all (by rw [I.zlen, hcs])
    simp [I.zlen, hcs, e2]
  · have shp : Shp h2 (h2.put h.n (some ⟨rows.set i cs, s.cells, true⟩)) := shp_put hg2 (by simp)
    refine ⟨hi, hw2.put (hw2.lt hg2) _, (I.le.trans hle).put I.new _, I.new, Nat.lt_of_lt_of_le I.lt hle.n, AHeap.get_put_eq, by simp [I.len], I.zlen, by simp [I.il], ?_, ?_, ?_⟩
    · rw [List.flatten_append]
      simp only [List.flatten_cons, List.flatten_nil, List.append_nil]
      exact Fresh.append (by have := I.lt; omega) hle.n I.fr hf
    · intro j y row js hy hrow hjs
      rcases getElem?_snoc hjs with ⟨hj, hjs⟩ | ⟨hj, rfl⟩
      · rw [I.il] at hj
        rw [List.getElem?_set, if_neg (by omega)] at hrow
        refine Sh.ro.frame (hle.shp.trans shp) (fun l hl => ?_) (I.done j y row js hy hrow hjs)
        have := I.fr.bd l (List.mem_flatten.2 ⟨js, List.mem_of_getElem? hjs, hl⟩)
        rw [AHeap.get_put_ne (by omega)]
        cases hq : h1.get l with
        | some o => exact hle.get l o hq
        | none => exact absurd hq (ro_some (I.done j y row js hy hrow hjs) hl)
      · rw [I.il] at hj
        subst hj
        rw [List.getElem?_set, if_pos rfl, if_pos (by rw [I.len]; exact hi)] at hrow
        cases hrow
        rw [hx] at hy
        cases hy
        refine Sh.ro.frame shp (fun l hl => ?_) hro
        have := hf.bd l hl
        have := I.lt
        rw [AHeap.get_put_ne (by omega)]
    · intro j hj hjn
      rw [List.getElem?_set, if_neg (by omega)]
      exact I.rest j (by omega) hjn
theorem ToI.start {s : Sh} {z : List Value} {n : Nat} {h : AHeap} {xs : List s.T} (hw : h.wf) (zl : z.length = s.cells) : ToI s z n h xs 0 (h.push ⟨List.replicate n z, s.cells, true⟩) (List.replicate n z) [] := by
  refine ⟨Nat.zero_le _, hw.push _, AHeap.Le.push hw _, hw _ (Nat.le_refl _), Nat.lt_succ_self _, AHeap.get_push_eq, by simp, zl, rfl, .nil, fun j x row js _ _ h => by simp at h, fun j _ hj => ?_⟩
  rw [List.getElem?_replicate, if_pos hj]
theorem ToI.finish {s : Sh} {z : List Value} {n : Nat} {h : AHeap} {xs : List s.T} {h1 : AHeap} {rows : List (List Value)} {idss : List (List Nat)} (I : ToI s z n h xs n h1 rows idss) (hx : xs.length = n) (c : Nat) :
    ∃ ids, So h1 s xs (.slice (some ⟨h.n, 0, some s.cells⟩) n c) ids ∧ Fresh h.n h1.n ids := by
  rcases Nat.eq_zero_or_pos n with h0 | hp
  · subst h0
    refine ⟨[], ⟨_, 0, c, rfl, .inr ⟨_, _, rfl⟩, hx, .inl ⟨rfl, rfl, ?_⟩⟩, .nil⟩
    rw [get_rowsOf I.get (Nat.zero_le _)]; rfl
  · refine ⟨h.n :: idss.flatten, ⟨_, n, c, rfl, .inr ⟨_, _, rfl⟩, hx, .inr ⟨h.n, 0, rows, idss, rfl, I.get, by rw [I.len]; omega, I.il, rfl, fun i x row js h1 h2 h3 => I.done i x row js h1 (by rw [Nat.zero_add] at h2; exact h2) h3⟩⟩, ?_⟩
    exact Fresh.append (Nat.le_succ _) I.lt (Fresh.one (Nat.lt_succ_self _)) I.fr
structure EqI {α : Type} (xs ys : List α) (i : Nat) : Prop where
  len : xs.length = ys.length
  hi : i ≤ xs.length
  eq : xs.take i = ys.take i
theorem EqI.step {α : Type} {xs ys : List α} {i : Nat} (I : EqI xs ys i) (hx : i < xs.length) (hy : i < ys.length) (e : xs[i] = ys[i]) : EqI xs ys (i + 1) :=
  ⟨I.len, hx, by rw [List.take_succ_eq_append_getElem hx, List.take_succ_eq_append_getElem hy, I.eq, e]⟩
theorem EqI.all {α : Type} {xs ys : List α} (I : EqI xs ys xs.length) : xs = ys := by
  have := I.eq
  rwa [List.take_length, I.len, List.take_length] at this
end Go.Dat
namespace Go.Abs
open Go.Dat
def toL (s : Sh) (z : List Value) (a : Option Addr) (n c : Nat) (h : AHeap) (xs : List s.T) : LSpec where
  ι := Nat × AHeap × List (List Value) × List (List Nat)
  κ := AHeap × List (List Value) × List (List Nat)
  I := fun i => ToI s z n h xs i.1 i.2.1 i.2.2.1 i.2.2.2
  μ := fun i => n - i.1
  head := fun i => ⟨[(0, .slice a n c), (3, .slice (some ⟨h.n, 0, some s.cells⟩) n (n + 1)), (4, .int .i64 i.1)], [], i.2.1⟩
  post := fun j => ⟨[(3, .slice (some ⟨h.n, 0, some s.cells⟩) n (n + 1))], [], j.1⟩
  R := fun _ j => ToI s z n h xs n j.1 j.2.1 j.2.2
  ret := fun _ _ _ => False
def szLp (s : Sh) (a : Option Addr) (n c : Nat) (h : AHeap) (xs : List s.T) (res : Int) : LSpec where
  ι := Nat × Int
  κ := Int
  I := fun i => i.1 ≤ n ∧ 0 ≤ i.2 ∧ i.2 ≤ 1048576 ∧ szL s.sz (xs.drop i.1) i.2 = res
  μ := fun i => n - i.1
  head := fun i => ⟨[(0, .slice a n c), (1, .int .i64 i.2), (5, .int .i64 i.1)], [], h⟩
  post := fun j => ⟨[(1, .int .i64 j)], [], h⟩
  R := fun _ j => j = res
  ret := fun _ v h' => v = .int .i64 res ∧ h' = h
def eqLp {α : Type} (h : AHeap) (a : Option Addr) (n c : Nat) (a' : Option Addr) (n' c' : Nat) (xs ys : List α) : LSpec where
  ι := Nat
  κ := Unit
  I := fun i => EqI xs ys i
  μ := fun i => xs.length - i
  head := fun i => ⟨[(0, .slice a n c), (1, .slice a' n' c'), (5, .int .i64 i)], [], h⟩
  post := fun _ => ⟨[], [], h⟩
  R := fun _ _ => xs = ys
  ret := fun _ v h' => v = .bool (eqb xs ys) ∧ h' = h
end Go.Abs
