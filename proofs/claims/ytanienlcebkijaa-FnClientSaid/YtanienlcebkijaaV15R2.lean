/- N0, R2. -/
import Derived.Test.YtanienlcebkijaaV15C2
import Derived.Test.YtanienlcebkijaaV15R1
section
namespace Go.Dat
open Go.Abs
structure Out (J : List Nat) (g g' : AHeap) : Prop where
  shp : Shp g g'
  get : ∀ z o, z ∉ J → g.get z = some o → g'.get z = some o
theorem Out.refl {J : List Nat} {g : AHeap} : Out J g g := ⟨.refl _, fun _ _ _ h => h⟩
theorem Out.trans {J : List Nat} {a b c : AHeap} (x : Out J a b) (y : Out J b c) : Out J a c := ⟨x.shp.trans y.shp, fun z o hz h => y.get z o hz (x.get z o hz h)⟩
theorem Out.widen {J K : List Nat} {a b : AHeap} (x : Out J a b) (h : ∀ z ∈ J, z ∈ K) : Out K a b := ⟨x.shp, fun z o hz => x.get z o (fun e => hz (h z e))⟩
theorem Out.of_le {J : List Nat} {a b : AHeap} (x : a.Le b) : Out J a b := ⟨x.shp, fun z o _ h => x.get z o h⟩
theorem Out.put {g : AHeap} {l e : Nat} {rows rows' : List (List Value)} {b : Bool} (hg : g.get l = some ⟨rows, e, b⟩) (hl : rows'.length = rows.length) : Out [l] g (g.put l (some ⟨rows', e, b⟩)) := by
  refine ⟨⟨Nat.le_refl _, fun z q e' b' hz => ?_⟩, fun z o hz h => ?_⟩
  · by_cases hzl : z = l
    · subst hzl
      rw [hg] at hz
      cases hz
      exact ⟨rows', AHeap.get_put_eq, hl⟩
    · exact ⟨q, by rw [AHeap.get_put_ne hzl]; exact hz, rfl⟩
  · rw [AHeap.get_put_ne (fun e => hz (by simp [e]))]; exact h
theorem Sh.ro.out {J : List Nat} {h h' : AHeap} (hs : Out J h h') : ∀ {s : Sh} {x : s.T} {cs : List Value} {ids : List Nat}, (∀ l ∈ ids, l ∉ J) → s.ro h x cs ids → s.ro h' x cs ids := by
  intro s
  induction s with
  | int => intro x cs ids _ e; exact e
  | bool => intro x cs ids _ e; exact e
  | str => intro x cs ids _ e; exact e
  | byte => intro x cs ids _ e; exact e
  | pair a b iha ihb =>
    rintro x cs ids hi ⟨c1, c2, i1, i2, e, rfl, h1, h2⟩
    exact ⟨c1, c2, i1, i2, e, rfl, iha (fun l hl => hi l (List.mem_append_left _ hl)) h1, ihb (fun l hl => hi l (List.mem_append_right _ hl)) h2⟩
  | sl e ih =>
    rintro xs cs ids hi ⟨a, n, c, rfl, hs', hn, ⟨rfl, e2, h1⟩ | ⟨l, r, rows, idss, rfl, hg, hr, hl, rfl, hx⟩⟩
    · exact ⟨a, 0, c, rfl, hs', hn, .inl ⟨rfl, e2, hs.shp.none hs' h1⟩⟩
    · refine ⟨_, n, c, rfl, hs', hn, .inr ⟨l, r, rows, idss, rfl, hs.get _ _ (hi l (by simp)) hg, hr, hl, rfl, fun i x row js h1 h2 h3 => ih (fun q hq => hi q ?_) (hx i x row js h1 h2 h3)⟩⟩
      exact List.mem_cons_of_mem _ (List.mem_flatten.2 ⟨js, List.mem_of_getElem? h3, hq⟩)
theorem So.out {J : List Nat} {h h' : AHeap} {s : Sh} {xs : List s.T} {v : Value} {ids : List Nat} (x : So h s xs v ids) (hs : Out J h h') (hi : ∀ l ∈ ids, l ∉ J) : So h' s xs v ids := by
  obtain ⟨v', e, h1⟩ := ro_sl.1 (Sh.ro.out hs hi (ro_sl.2 ⟨v, rfl, x⟩))
  cases e; exact h1
def mrkL {α : Type} (f : α → Int → α × Int) : List α → Int → List α × Int
  | [], k => ([], k)
  | x :: xs, k => ((f x k).1 :: (mrkL f xs (f x k).2).1, (mrkL f xs (f x k).2).2)
def Sh.mkd : (s : Sh) → s.T → Int → s.T × Int
  | .int, _, k => (k, k + 1)
  | .bool, _, k => (decide (k % 3 = 0), k + 1)
  | .str, _, k => (mtext k, k + 1)
  | .byte, x, k => (x, k)
  | .pair a b, x, k => (((a.mkd x.1 k).1, (b.mkd x.2 (a.mkd x.1 k).2).1), (b.mkd x.2 (a.mkd x.1 k).2).2)
  | .sl e, xs, k => mrkL (α := e.T) e.mkd xs k
def Sh.cn : (s : Sh) → s.T → Nat
  | .int, _ => 1
  | .bool, _ => 1
  | .str, _ => 1
  | .byte, _ => 0
  | .pair a b, x => a.cn x.1 + b.cn x.2
  | .sl e, xs => (List.map (α := e.T) e.cn xs).sum
theorem mrkL_cn {α : Type} {f : α → Int → α × Int} {c : α → Nat} (hf : ∀ x k, (f x k).2 = k + c x) : ∀ (xs : List α) (k : Int), (mrkL f xs k).2 = k + ((xs.map c).sum : Nat) := by
  intro xs
  induction xs with
  | nil => intro k; simp [mrkL]
  | cons x xs ih => intro k; simp only [mrkL, ih, hf, List.map_cons, List.sum_cons]; omega
theorem Sh.mkd_cn : ∀ (s : Sh) (x : s.T) (k : Int), (s.mkd x k).2 = k + s.cn x := by
  intro s
  induction s with
  | int => intro x k; rfl
  | bool => intro x k; rfl
  | str => intro x k; rfl
  | byte => intro x k; simp [Sh.mkd, Sh.cn]
  | pair a b iha ihb => intro x k; simp only [Sh.mkd, Sh.cn, iha, ihb]; omega
  | sl e ih => intro x k; exact mrkL_cn ih x k
theorem Sh.mkd_le (s : Sh) (x : s.T) (k : Int) : k ≤ (s.mkd x k).2 := by rw [s.mkd_cn]; omega
theorem Sh.mrkL_le (s : Sh) (xs : List s.T) (k : Int) : k ≤ (mrkL s.mkd xs k).2 := by rw [mrkL_cn s.mkd_cn]; omega
structure El (g0 : AHeap) (l p : Nat) (rows : List (List Value)) (e : Nat) (js : List Nat) (g : AHeap) (cs : List Value) : Prop where
  get : g.get l = some ⟨rows.set p cs, e, true⟩
  hp : p < rows.length
  wf : g.wf
  out : Out (l :: js) g0 g
theorem El.wr {g0 : AHeap} {l p : Nat} {rows : List (List Value)} {e : Nat} {js : List Nat} {g : AHeap} {cs : List Value} (E : El g0 l p rows e js g cs) (j : Nat) (ws cs' : List Value) (hj : j + ws.length ≤ cs.length) (hc : setRange cs j ws = cs') :
    ∃ g', g.wr l p j ws = some g' ∧ El g0 l p rows e js g' cs' ∧ Out [l] g g' := by
  have o : Out [l] g (g.put l (some ⟨rows.set p cs', e, true⟩)) := .put E.get (by simp)
  refine ⟨g.put l (some ⟨rows.set p cs', e, true⟩), ?_, ⟨AHeap.get_put_eq, E.hp, E.wf.put (E.wf.lt E.get) _, E.out.trans (o.widen (by simp))⟩, o⟩
  unfold AHeap.wr
  rw [E.get]
  dsimp only
  rw [List.getElem?_set, if_pos rfl, if_pos E.hp]
  dsimp only
  rw [decide_eq_true hj, Bool.true_and, cond_true, List.set_set, hc]
theorem El.le {g0 : AHeap} {l p : Nat} {rows : List (List Value)} {e : Nat} {js : List Nat} {g g' : AHeap} {cs : List Value} (E : El g0 l p rows e js g cs) (hle : g.Le g') (w : g'.wf) : El g0 l p rows e js g' cs :=
  ⟨hle.get _ _ E.get, E.hp, w, E.out.trans (.of_le hle)⟩
theorem El.call {g0 : AHeap} {l p : Nat} {rows : List (List Value)} {e : Nat} {js J : List Nat} {g g' : AHeap} {cs : List Value} (E : El g0 l p rows e js g cs) (o : Out J g g') (w : g'.wf) (hl : l ∉ J) (hJ : ∀ z ∈ J, z ∈ js) : El g0 l p rows e js g' cs :=
  ⟨o.get _ _ hl E.get, E.hp, w, E.out.trans (o.widen fun z hz => List.mem_cons_of_mem _ (hJ z hz))⟩
theorem El.ld {g0 : AHeap} {l p : Nat} {rows : List (List Value)} {e : Nat} {js : List Nat} {g : AHeap} {cs : List Value} (E : El g0 l p rows e js g cs) (j m : Nat) (hj : j + m ≤ cs.length) : g.ld l p j m = some ((cs.drop j).take m) := by
  unfold AHeap.ld
  rw [E.get]
  dsimp only
  rw [List.getElem?_set, if_pos rfl, if_pos E.hp]
  dsimp only
  rw [decide_eq_true hj, cond_true]
theorem So.elem {g : AHeap} {s : Sh} {ys : List s.T} {v : Value} {ids : List Nat} (so : So g s ys v ids) (nd : ids.Nodup) (wf : g.wf) {i : Nat} {y : s.T} (hy : ys[i]? = some y) :
    ∃ l r n c rows cs js, v = .slice (some ⟨l, r, some s.cells⟩) n c ∧ i < n ∧ El g l (r + i) rows s.cells js g cs ∧ s.ro g y cs js ∧ l ∉ js ∧ js.Nodup ∧ (∀ z ∈ l :: js, z ∈ ids) ∧
      ∀ g' cs' y', El g l (r + i) rows s.cells js g' cs' → s.ro g' y' cs' js → So g' s (ys.set i y') v ids := by
  obtain ⟨a, n, c, rfl, hs, hl, ⟨rfl, rfl, h0⟩ | ⟨l, r, rows, idss, rfl, hg, hr, hil, rfl, hx⟩⟩ := so
  · have : ys = [] := List.eq_nil_of_length_eq_zero hl
    subst this; simp at hy
  have hi : i < n := by rw [← hl]; exact (List.getElem?_eq_some_iff.1 hy).1
  have hrow : rows[r + i]? = some rows[r + i] := List.getElem?_eq_getElem (by omega)
  have hjs : idss[i]? = some idss[i] := List.getElem?_eq_getElem (by omega)
  have hsub : ∀ (j : Nat) (q : List Nat), idss[j]? = some q → ∀ z ∈ q, z ∈ idss.flatten := fun j q hq z hz => List.mem_flatten.2 ⟨q, List.mem_of_getElem? hq, hz⟩
  rw [List.nodup_cons] at nd
  have ndf := List.pairwise_flatten.1 nd.2
  refine ⟨l, r, n, c, rows, rows[r + i], idss[i], rfl, hi, ⟨by rw [List.set_getElem_self]; exact hg, by omega, wf, .refl⟩, hx i y _ _ hy hrow hjs, fun e => nd.1 (hsub i _ hjs l e), ndf.1 _ (List.mem_of_getElem? hjs), fun z hz => ?_, fun g' cs' y' E ro' => ?_⟩
  · rcases List.mem_cons.1 hz with rfl | hz
    · exact List.mem_cons_self
    · exact List.mem_cons_of_mem _ (hsub i _ hjs z hz)
  · refine ⟨_, n, c, rfl, hs, by rw [List.length_set]; exact hl, .inr ⟨l, r, rows.set (r + i) cs', idss, rfl, E.get, by rw [List.length_set]; exact hr, hil, rfl, fun j x row js h1 h2 h3 => ?_⟩⟩
    by_cases hji : j = i
    · subst hji
      rw [List.getElem?_set, if_pos rfl, if_pos (by omega)] at h1 h2
      rw [hjs] at h3
      cases h1; cases h2; cases h3
      exact ro'
    · rw [List.getElem?_set, if_neg (by omega)] at h1 h2
      refine Sh.ro.out E.out (fun z hz e => ?_) (hx j x row js h1 h2 h3)
      rcases List.mem_cons.1 e with rfl | e
      · exact nd.1 (hsub j _ h3 _ hz)
      · obtain ⟨hj1, ej⟩ := List.getElem?_eq_some_iff.1 h3
        have hp := List.pairwise_iff_getElem.1 ndf.2
        rcases Nat.lt_or_gt_of_ne hji with hlt | hgt
        · exact hp j i hj1 (by omega) hlt z (by rw [ej]; exact hz) z e rfl
        · exact hp i j (by omega) hj1 hgt z e z (by rw [ej]; exact hz) rfl
structure MkI (s : Sh) (h : AHeap) (xs : List s.T) (k : Int) (v : Value) (ids : List Nat) (i : Nat) (ki : Int) (g : AHeap) (ys : List s.T) : Prop where
  hi : i ≤ xs.length
  k0 : 0 ≤ ki
  wf : g.wf
  out : Out ids h g
  so : So g s ys v ids
  rest : ys.drop i = xs.drop i
  eq1 : (mrkL s.mkd xs k).1 = ys.take i ++ (mrkL s.mkd (xs.drop i) ki).1
  eq2 : (mrkL s.mkd xs k).2 = (mrkL s.mkd (xs.drop i) ki).2
theorem MkI.start {s : Sh} {h : AHeap} {xs : List s.T} {k : Int} {v : Value} {ids : List Nat} (hw : h.wf) (hk : 0 ≤ k) (so : So h s xs v ids) : MkI s h xs k v ids 0 k h xs :=
  ⟨Nat.zero_le _, hk, hw, .refl, so, rfl, rfl, rfl⟩
theorem MkI.at {s : Sh} {h : AHeap} {xs : List s.T} {k : Int} {v : Value} {ids : List Nat} {i : Nat} {ki : Int} {g : AHeap} {ys : List s.T} (I : MkI s h xs k v ids i ki g ys) {x : s.T} (hx : xs[i]? = some x) : ys[i]? = some x := by
  have h1 : (ys.drop i)[0]? = (xs.drop i)[0]? := by rw [I.rest]
  rw [List.getElem?_drop, List.getElem?_drop, Nat.add_zero] at h1
  rw [h1, hx]
theorem drop_at {α : Type} {xs : List α} {i : Nat} {x : α} (hx : xs[i]? = some x) : xs.drop i = x :: xs.drop (i + 1) := by
  obtain ⟨hi, e⟩ := List.getElem?_eq_some_iff.1 hx
  rw [List.drop_eq_getElem_cons hi, e]
theorem MkI.bound {s : Sh} {h : AHeap} {xs : List s.T} {k : Int} {v : Value} {ids : List Nat} {i : Nat} {ki : Int} {g : AHeap} {ys : List s.T} (I : MkI s h xs k v ids i ki g ys) {x : s.T} (hx : xs[i]? = some x) {b : Int} (hb : (mrkL s.mkd xs k).2 ≤ b) : (s.mkd x ki).2 ≤ b := by
  have h1 := I.eq2
  rw [drop_at hx] at h1
  simp only [mrkL] at h1
  have := s.mrkL_le (xs.drop (i + 1)) (s.mkd x ki).2
  omega
theorem MkI.step {s : Sh} {h : AHeap} {xs : List s.T} {k : Int} {v : Value} {ids : List Nat} {i : Nat} {ki : Int} {g : AHeap} {ys : List s.T} (I : MkI s h xs k v ids i ki g ys) {x : s.T} (hx : xs[i]? = some x) {g' : AHeap} (wf : g'.wf) (o : Out ids g g') (so : So g' s (ys.set i (s.mkd x ki).1) v ids) :
    MkI s h xs k v ids (i + 1) (s.mkd x ki).2 g' (ys.set i (s.mkd x ki).1) := by
  obtain ⟨hi, e⟩ := List.getElem?_eq_some_iff.1 hx
  have hyi : i < ys.length := (List.getElem?_eq_some_iff.1 (I.at hx)).1
  have h1 := I.eq1
  have h2 := I.eq2
  rw [drop_at hx] at h1 h2
  simp only [mrkL] at h1 h2
  refine ⟨hi, Int.le_trans I.k0 (s.mkd_le x ki), wf, I.out.trans o, so, ?_, ?_, h2⟩
  · rw [List.drop_set, if_pos (by omega)]
    have := I.rest
    rw [drop_at hx, drop_at (I.at hx)] at this
    exact (List.cons.inj this).2
  · rw [h1, List.take_add_one, List.getElem?_set, if_pos rfl, if_pos hyi, List.take_set_of_le (Nat.le_refl _), List.append_assoc]; rfl
structure HdI (s : Sh) (h : AHeap) (xs : List s.T) (k : Int) (i : Nat) (ki : Int) (g : AHeap) : Prop where
  hi : i ≤ xs.length
  k0 : 0 ≤ ki
  wf : g.wf
  le : h.Le g
  rest : (mrkL s.mkd xs k).1.drop i = (mrkL s.mkd (xs.drop i) ki).1
  eq2 : (mrkL s.mkd xs k).2 = (mrkL s.mkd (xs.drop i) ki).2
theorem HdI.start {s : Sh} {h : AHeap} {xs : List s.T} {k : Int} (hw : h.wf) (hk : 0 ≤ k) : HdI s h xs k 0 k h := ⟨Nat.zero_le _, hk, hw, .refl _, rfl, rfl⟩
theorem HdI.at {s : Sh} {h : AHeap} {xs : List s.T} {k : Int} {i : Nat} {ki : Int} {g : AHeap} (I : HdI s h xs k i ki g) {x : s.T} (hx : xs[i]? = some x) : (mrkL s.mkd xs k).1[i]? = some (s.mkd x ki).1 := by
  have h1 : ((mrkL s.mkd xs k).1.drop i)[0]? = ((mrkL s.mkd (xs.drop i) ki).1)[0]? := by rw [I.rest]
  rw [List.getElem?_drop, Nat.add_zero, drop_at hx] at h1
  exact h1
theorem HdI.bound {s : Sh} {h : AHeap} {xs : List s.T} {k : Int} {i : Nat} {ki : Int} {g : AHeap} (I : HdI s h xs k i ki g) {x : s.T} (hx : xs[i]? = some x) {b : Int} (hb : (mrkL s.mkd xs k).2 ≤ b) : (s.mkd x ki).2 ≤ b := by
  have h1 := I.eq2
  rw [drop_at hx] at h1
  simp only [mrkL] at h1
  have := s.mrkL_le (xs.drop (i + 1)) (s.mkd x ki).2
  omega
theorem HdI.step {s : Sh} {h : AHeap} {xs : List s.T} {k : Int} {i : Nat} {ki : Int} {g : AHeap} (I : HdI s h xs k i ki g) {x : s.T} (hx : xs[i]? = some x) {g' : AHeap} (wf : g'.wf) (le : g.Le g') : HdI s h xs k (i + 1) (s.mkd x ki).2 g' := by
  have h1 := I.rest
  have h2 := I.eq2
  rw [drop_at hx] at h1 h2
  simp only [mrkL] at h1 h2
  refine ⟨(List.getElem?_eq_some_iff.1 hx).1, Int.le_trans I.k0 (s.mkd_le x ki), wf, I.le.trans le, ?_, h2⟩
  have h3 : ((mrkL s.mkd xs k).1.drop i).drop 1 = ((s.mkd x ki).1 :: (mrkL s.mkd (xs.drop (i + 1)) (s.mkd x ki).2).1).drop 1 := by rw [h1]
  rw [List.drop_drop] at h3
  exact h3
def Sh.rn (h : AHeap) : (s : Sh) → s.T → List Value → List Nat → Prop
  | .int, x, cs, ids => cs = [.int .i64 x] ∧ ids = []
  | .bool, x, cs, ids => cs = [.bool x] ∧ ids = []
  | .str, x, cs, ids => cs = [.string x] ∧ ids = []
  | .byte, x, cs, ids => cs = [.int .u8 x] ∧ ids = []
  | .pair a b, x, cs, ids => ∃ c1 c2 i1 i2, cs = c1 ++ c2 ∧ ids = i1 ++ i2 ∧ a.rn h x.1 c1 i1 ∧ b.rn h x.2 c2 i2
  | .sl e, xs, cs, ids => ∃ a n c, cs = [.slice a n c] ∧ List.length (α := e.T) xs = n ∧
      ((a = none ∧ n = 0 ∧ c = 0 ∧ ids = []) ∨ ∃ l r rows idss, a = some ⟨l, r, some e.cells⟩ ∧ h.get l = some ⟨rows, e.cells, true⟩ ∧ r + n ≤ rows.length ∧ List.length (α := List Nat) idss = n ∧ ids = l :: idss.flatten ∧
        ∀ (i : Nat) (x : e.T) (row : List Value) (js : List Nat), (show List e.T from xs)[i]? = some x → rows[r + i]? = some row → idss[i]? = some js → e.rn h x row js)
def Sn (h : AHeap) (s : Sh) (xs : List s.T) (v : Value) (ids : List Nat) : Prop :=
  ∃ a n c, v = .slice a n c ∧ xs.length = n ∧
      ((a = none ∧ n = 0 ∧ c = 0 ∧ ids = []) ∨ ∃ l r rows idss, a = some ⟨l, r, some s.cells⟩ ∧ h.get l = some ⟨rows, s.cells, true⟩ ∧ r + n ≤ rows.length ∧ List.length (α := List Nat) idss = n ∧ ids = l :: idss.flatten ∧
        ∀ (i : Nat) (x : s.T) (row : List Value) (js : List Nat), xs[i]? = some x → rows[r + i]? = some row → idss[i]? = some js → s.rn h x row js)
theorem rn_sl {h : AHeap} {s : Sh} {xs : List s.T} {cs : List Value} {ids : List Nat} : Sh.rn h (.sl s) xs cs ids ↔ ∃ v, cs = [v] ∧ Sn h s xs v ids := by
  constructor
  · rintro ⟨a, n, c, rfl, h1⟩
    exact ⟨_, rfl, a, n, c, rfl, h1⟩
  · rintro ⟨_, rfl, a, n, c, rfl, h1⟩
    exact ⟨a, n, c, rfl, h1⟩
theorem Sh.rn.ro {h : AHeap} : ∀ {s : Sh} {x : s.T} {cs : List Value} {ids : List Nat}, s.rn h x cs ids → s.ro h x cs ids := by
  intro s
  induction s with
  | int => intro x cs ids e; exact e
  | bool => intro x cs ids e; exact e
  | str => intro x cs ids e; exact e
  | byte => intro x cs ids e; exact e
  | pair a b iha ihb =>
    rintro x cs ids ⟨c1, c2, i1, i2, e, e2, h1, h2⟩
    exact ⟨c1, c2, i1, i2, e, e2, iha h1, ihb h2⟩
  | sl e ih =>
    rintro xs cs ids ⟨a, n, c, rfl, hn, ⟨rfl, rfl, rfl, rfl⟩ | ⟨l, r, rows, idss, rfl, hg, hr, hl, rfl, hx⟩⟩
    · exact ⟨none, 0, 0, rfl, .inl ⟨rfl, rfl, rfl⟩, hn, .inl ⟨rfl, rfl, rfl⟩⟩
    · exact ⟨_, n, c, rfl, .inr ⟨l, r, rfl⟩, hn, .inr ⟨l, r, rows, idss, rfl, hg, hr, hl, rfl, fun i x row js h1 h2 h3 => ih (hx i x row js h1 h2 h3)⟩⟩
theorem Sn.so {h : AHeap} {s : Sh} {xs : List s.T} {v : Value} {ids : List Nat} (x : Sn h s xs v ids) : So h s xs v ids := by
  obtain ⟨v', e, h1⟩ := ro_sl.1 (Sh.rn.ro (rn_sl.2 ⟨v, rfl, x⟩))
  cases e; exact h1
theorem Sh.rn.keep {h g : AHeap} : ∀ {s : Sh} {x : s.T} {cs : List Value} {ids : List Nat}, (∀ z ∈ ids, ∀ o, h.get z = some o → g.get z = some o) → s.rn h x cs ids → s.rn g x cs ids := by
  intro s
  induction s with
  | int => intro x cs ids _ e; exact e
  | bool => intro x cs ids _ e; exact e
  | str => intro x cs ids _ e; exact e
  | byte => intro x cs ids _ e; exact e
  | pair a b iha ihb =>
    rintro x cs ids hi ⟨c1, c2, i1, i2, e, rfl, h1, h2⟩
    exact ⟨c1, c2, i1, i2, e, rfl, iha (fun l hl => hi l (List.mem_append_left _ hl)) h1, ihb (fun l hl => hi l (List.mem_append_right _ hl)) h2⟩
  | sl e ih =>
    rintro xs cs ids hi ⟨a, n, c, rfl, hn, ⟨rfl, rfl, rfl, rfl⟩ | ⟨l, r, rows, idss, rfl, hg, hr, hl, rfl, hx⟩⟩
    · exact ⟨none, 0, 0, rfl, hn, .inl ⟨rfl, rfl, rfl, rfl⟩⟩
    · refine ⟨_, n, c, rfl, hn, .inr ⟨l, r, rows, idss, rfl, hi l (by simp) _ hg, hr, hl, rfl, fun i x row js h1 h2 h3 => ih (fun q hq => hi q ?_) (hx i x row js h1 h2 h3)⟩⟩
      exact List.mem_cons_of_mem _ (List.mem_flatten.2 ⟨js, List.mem_of_getElem? h3, hq⟩)
theorem Sh.rn.le {h g : AHeap} (le : h.Le g) {s : Sh} {x : s.T} {cs : List Value} {ids : List Nat} (r : s.rn h x cs ids) : s.rn g x cs ids := r.keep (fun z _ o hz => le.get z o hz)
theorem Sn.keep {h g : AHeap} {s : Sh} {xs : List s.T} {v : Value} {ids : List Nat} (x : Sn h s xs v ids) (hi : ∀ z ∈ ids, ∀ o, h.get z = some o → g.get z = some o) : Sn g s xs v ids := by
  obtain ⟨v', e, h1⟩ := rn_sl.1 (Sh.rn.keep hi (rn_sl.2 ⟨v, rfl, x⟩))
  cases e; exact h1
theorem Sn.le {h g : AHeap} (le : h.Le g) {s : Sh} {xs : List s.T} {v : Value} {ids : List Nat} (x : Sn h s xs v ids) : Sn g s xs v ids := x.keep (fun z _ o hz => le.get z o hz)
theorem Sn.nil {h : AHeap} {s : Sh} : Sn h s [] (.slice none 0 0) [] := ⟨none, 0, 0, rfl, rfl, .inl ⟨rfl, rfl, rfl, rfl⟩⟩
structure SoB (s : Sh) (h0 h : AHeap) (a : Option Addr) (n c : Nat) (xs : List s.T) (ids : List Nat) : Prop where
  le : h0.Le h
  wf : h.wf
  wf0 : h0.wf
  len : xs.length = n
  fr : Fresh h0.n h.n ids
  at_ : (a = none ∧ n = 0 ∧ c = 0 ∧ ids = []) ∨ ∃ l rows idss, a = some ⟨l, 0, some s.cells⟩ ∧ h.get l = some ⟨rows, s.cells, true⟩ ∧ rows.length = n ∧ List.length (α := List Nat) idss = n ∧ ids = l :: idss.flatten ∧ (c = 0 ∨ c = n + 1) ∧
    ∀ (i : Nat) (x : s.T) (row : List Value) (js : List Nat), xs[i]? = some x → rows[i]? = some row → idss[i]? = some js → s.rn h x row js
theorem SoB.nil {s : Sh} {h : AHeap} (hw : h.wf) : SoB s h h none 0 0 [] [] := ⟨.refl _, hw, hw, rfl, .nil, .inl ⟨rfl, rfl, rfl, rfl⟩⟩
theorem SoB.sn {s : Sh} {h0 h : AHeap} {a : Option Addr} {n c : Nat} {xs : List s.T} {ids : List Nat} (B : SoB s h0 h a n c xs ids) : Sn h s xs (.slice a n c) ids := by
  obtain ⟨rfl, rfl, rfl, rfl⟩ | ⟨l, rows, idss, rfl, hg, hr, hi, rfl, hc, hx⟩ := B.at_
  · exact ⟨none, 0, 0, rfl, B.len, .inl ⟨rfl, rfl, rfl, rfl⟩⟩
  · exact ⟨_, n, c, rfl, B.len, .inr ⟨l, 0, rows, idss, rfl, hg, by omega, hi, rfl, fun i x row js h1 h2 h3 => hx i x row js h1 (by rw [Nat.zero_add] at h2; exact h2) h3⟩⟩
theorem SoB.step {s : Sh} {h0 h h' : AHeap} {a : Option Addr} {n c : Nat} {xs : List s.T} {ids : List Nat} (B : SoB s h0 h a n c xs ids) (le0 : h0.Le h') (wf : h'.wf) (hn : h.n ≤ h'.n) (hk : ∀ z ∈ ids, ∀ o, h.get z = some o → h'.get z = some o) : SoB s h0 h' a n c xs ids :=
  ⟨le0, wf, B.wf0, B.len, B.fr.widen (Nat.le_refl _) hn, by
    obtain e | ⟨l, rows, idss, e, hg, hr, hi, e2, hc, hx⟩ := B.at_
    · exact .inl e
    · subst e2
      exact .inr ⟨l, rows, idss, e, hk l List.mem_cons_self _ hg, hr, hi, rfl, hc, fun i x row js h1 h2 h3 => (hx i x row js h1 h2 h3).keep (fun z hz => hk z (List.mem_cons_of_mem _ (List.mem_flatten.2 ⟨js, List.mem_of_getElem? h3, hz⟩)))⟩⟩
theorem SoB.grow {s : Sh} {h0 h h' : AHeap} {a : Option Addr} {n c : Nat} {xs : List s.T} {ids : List Nat} (B : SoB s h0 h a n c xs ids) (le : h.Le h') (wf : h'.wf) : SoB s h0 h' a n c xs ids :=
  B.step (B.le.trans le) wf le.n (fun z _ o hz => le.get z o hz)
theorem Fresh.perm3 {a b m : Nat} {l : Nat} {i j : List Nat} (x : Fresh a b (l :: i)) (y : Fresh a b j) (d : ∀ z ∈ i, z ∉ j) (hm : b ≤ m) : Fresh a (m + 1) (m :: (i ++ j)) := by
  refine ⟨List.nodup_cons.2 ⟨fun e => ?_, List.nodup_append.2 ⟨(List.nodup_cons.1 x.nd).2, y.nd, fun p hp q hq e => d p hp (e ▸ hq)⟩⟩, fun z hz => ?_⟩
  · rcases List.mem_append.1 e with e | e
    · have := (x.bd m (List.mem_cons_of_mem _ e)).2; omega
    · have := (y.bd m e).2; omega
  · rcases List.mem_cons.1 hz with rfl | hz
    · have := x.bd l List.mem_cons_self; omega
    · rcases List.mem_append.1 hz with e | e
      · have := x.bd z (List.mem_cons_of_mem _ e); omega
      · have := y.bd z e; omega
theorem SoB.app {s : Sh} {h0 h : AHeap} {a : Option Addr} {n c : Nat} {xs : List s.T} {ids js : List Nat} {x : s.T} {cs : List Value} (B : SoB s h0 h a n c xs ids) (rn : s.rn h x cs js) (fj : Fresh h0.n h.n js) (d : ∀ z ∈ ids, z ∉ js) :
    ∃ l h' ids', h.app (.slice a n c) [cs] s.cells = some (.slice (some ⟨l, 0, some s.cells⟩) (n + 1) 0, h') ∧ SoB s h0 h' (some ⟨l, 0, some s.cells⟩) (n + 1) 0 (xs ++ [x]) ids' ∧ h.n ≤ h'.n ∧ (∀ z ∈ ids', z = h.n ∨ z ∈ ids ∨ z ∈ js) ∧ ∀ z o, z ∉ ids → h.get z = some o → h'.get z = some o := by
  have nb := B.len
  have sz : (xs ++ [x]).length = n + 1 := by rw [List.length_append, nb]; rfl
  obtain ⟨rfl, rfl, rfl, rfl⟩ | ⟨l, rows, idss, rfl, hg, hr, hi, rfl, hc, hx⟩ := B.at_
  · have e0 : xs = [] := List.eq_nil_of_length_eq_zero nb
    subst e0
    have lp := AHeap.Le.push B.wf ⟨[cs], s.cells, true⟩
    refine ⟨h.n, h.push ⟨[cs], s.cells, true⟩, h.n :: [js].flatten, rfl, ⟨B.le.trans lp, B.wf.push _, B.wf0, sz, ?_, .inr ⟨h.n, [cs], [js], rfl, AHeap.get_push_eq, rfl, rfl, rfl, .inl rfl, ?_⟩⟩, lp.n, fun z hz => ?_, fun z o _ hz => lp.get z o hz⟩
    · refine ⟨List.nodup_cons.2 ⟨fun e => ?_, by simpa using fj.nd⟩, fun z hz => ?_⟩
      · have := (fj.bd h.n (by simpa using e)).2; omega
      · show h0.n ≤ z ∧ z < h.n + 1
        rcases List.mem_cons.1 hz with rfl | hz
        · have := B.le.n; omega
        · have := fj.bd z (by simpa using hz); omega
    · intro i y row q h1 h2 h3
      have : i = 0 := by have := (List.getElem?_eq_some_iff.1 h2).1; simp at this; omega
      subst this
      simp at h1 h2 h3
      subst h1; subst h2; subst h3
      exact rn.le lp
    · rcases List.mem_cons.1 hz with rfl | hz
      · exact .inl rfl
      · exact .inr (.inr (by simpa using hz))
  · have hro : h.rowsOf (.slice (some ⟨l, 0, some s.cells⟩) n c) = some rows := by rw [get_rowsOf hg (by omega), List.drop_zero, List.take_of_length_le (by omega)]
    have ndl := List.nodup_cons.1 B.fr.nd
    have hlj : l ∉ js := d l List.mem_cons_self
    have hlt : l < h.n := B.wf.lt hg
    have h0l : h0.n ≤ l := (B.fr.bd l List.mem_cons_self).1
    have key : ∀ (g : AHeap), g.wf → h0.Le g → g.n = h.n → (∀ z o, z ≠ l → h.get z = some o → g.get z = some o) → SoB s h0 (g.push ⟨rows ++ [cs], s.cells, true⟩) (some ⟨h.n, 0, some s.cells⟩) (n + 1) 0 (xs ++ [x]) (h.n :: (idss ++ [js]).flatten) ∧ ∀ z o, z ∉ l :: idss.flatten → h.get z = some o → (g.push ⟨rows ++ [cs], s.cells, true⟩).get z = some o := by
      intro g gw gl gn keep
      have lp := AHeap.Le.push gw ⟨rows ++ [cs], s.cells, true⟩
      have k2 : ∀ z o, z ≠ l → h.get z = some o → (g.push ⟨rows ++ [cs], s.cells, true⟩).get z = some o := fun z o hz ho => lp.get z o (keep z o hz ho)
      refine ⟨⟨gl.trans lp, gw.push _, B.wf0, sz, ?_, .inr ⟨h.n, rows ++ [cs], idss ++ [js], rfl, by rw [← gn]; exact AHeap.get_push_eq, by simp [hr], by simp [hi], rfl, .inl rfl, ?_⟩⟩, fun z o hz ho => k2 z o (fun e => hz (by simp [e])) ho⟩
      · show Fresh h0.n (g.n + 1) _
        rw [gn, List.flatten_append, List.flatten_singleton]
        exact B.fr.perm3 fj (fun z hz => d z (List.mem_cons_of_mem _ hz)) (Nat.le_refl _)
      · intro i y row q h1 h2 h3
        rcases getElem?_snoc h1 with ⟨hi1, h1⟩ | ⟨hi1, rfl⟩
        · rw [List.getElem?_append_left (by omega)] at h2 h3
          refine (hx i y row q h1 h2 h3).keep (fun z hz o => k2 z o (fun e => ?_))
          subst e
          exact ndl.1 (List.mem_flatten.2 ⟨q, List.mem_of_getElem? h3, hz⟩)
        · rw [List.getElem?_append_right (by omega), show i - rows.length = 0 by omega] at h2
          rw [List.getElem?_append_right (by omega), show i - idss.length = 0 by omega] at h3
          simp at h2 h3
          subst h2; subst h3
          exact rn.keep (fun z hz o => k2 z o (fun e => hlj (e ▸ hz)))
    have mem : ∀ z ∈ h.n :: (idss ++ [js]).flatten, z = h.n ∨ z ∈ l :: idss.flatten ∨ z ∈ js := fun z hz => by
      rw [List.flatten_append, List.flatten_singleton] at hz
      rcases List.mem_cons.1 hz with rfl | hz
      · exact .inl rfl
      · rcases List.mem_append.1 hz with e | e
        · exact .inr (.inl (List.mem_cons_of_mem _ e))
        · exact .inr (.inr e)
    unfold AHeap.app
    dsimp only
    rw [hro]
    dsimp only
    rw [beq_self_eq_true, cond_true]
    cases hcc : (c != 0 && decide (c ≤ n + [cs].length)) with
    | true =>
      rw [cond_true]
      obtain ⟨k1, k2⟩ := key h B.wf B.le rfl (fun z o _ hz => hz)
      exact ⟨h.n, _, _, rfl, k1, Nat.le_succ _, mem, k2⟩
    | false =>
      rw [cond_false, hg]
      dsimp only
      have hno : (c != 0 && decide (0 + n + [cs].length ≤ rows.length)) = false := by
        rw [Bool.and_eq_false_iff]; right; rw [decide_eq_false_iff_not, List.length_singleton]; omega
      rw [cond_true, hno, cond_false]
      obtain ⟨k1, k2⟩ := key (h.put l none) (B.wf.put hlt _) (B.le.put (B.wf0 l h0l) none) rfl (fun z o hz ho => by rw [AHeap.get_put_ne hz]; exact ho)
      exact ⟨h.n, _, _, rfl, k1, Nat.le_succ _, mem, k2⟩
end Go.Dat
end
section
namespace Go.Dat
open Go.Abs
theorem oneB_inj {x y : Nat} (hx : x < 256) (hy : y < 256) (h : oneB x = oneB y) : x = y := by
  have h1 : (UInt8.ofNat x) = UInt8.ofNat y := by
    have := congrArg (fun b : ByteArray => b.data[0]!) h
    simpa [oneB] using this
  have h2 := congrArg UInt8.toNat h1
  simp only [UInt8.toNat_ofNat'] at h2
  omega
theorem extract_one {t : ByteArray} {k : Nat} (h : k < t.size) : t.extract k (k + 1) = oneB (bN t k) := by
  apply ba_ext
  have h2 : k < t.data.toList.length := by rw [Array.length_toList]; exact h
  have e : bN t k = (t.data.toList[k]).toNat := by unfold bN; rw [List.getD_eq_getElem?_getD, List.getElem?_eq_getElem h2]; rfl
  rw [e]
  unfold oneB
  simp only [ByteArray.data_extract, Array.toList_extract, List.extract_eq_take_drop]
  rw [show k + 1 - k = 1 by omega, List.drop_eq_getElem_cons h2]
  simp
theorem extract_split {t : ByteArray} {a b c : Nat} (h1 : a ≤ b) (h2 : b ≤ c) : t.extract a c = t.extract a b ++ t.extract b c := by
  rw [ByteArray.extract_append_extract, Nat.min_eq_left h1, Nat.max_eq_right h2]
theorem gn_enc : ∀ (m : Nat) (t : ByteArray) (a i u0 u e : Nat), 10 - i ≤ m → i ≤ 9 → gn t a i u0 = some (u, e) → ∃ w, u = u0 + w * 128 ^ i ∧ a + i < e ∧ e ≤ t.size ∧ t.extract (a + i) e = vb w ∧ (0 < i → 0 < w) ∧ w * 128 ^ i < 18446744073709551616 - 128 ^ i + 1 := by
  intro m
  induction m with
  | zero => intro t a i u0 u e hm hi; omega
  | succ m ih =>
    intro t a i u0 u e hm hi h
    have hb := bN_lt t (a + i)
    have hp : 0 < 128 ^ i := Nat.pow_pos (by omega)
    rw [gn] at h
    split at h
    · cases h
    rename_i h1
    split at h
    · cases h
    rename_i h2
    have hx : t.extract (a + i) (a + i + 1) = oneB (bN t (a + i)) := extract_one (by omega)
    split at h
    · rename_i h3
      have hi8 : i ≤ 8 := by omega
      obtain ⟨w, hu, hlt, he, hw, hpos, hbd⟩ := ih t a (i + 1) _ u e (by omega) (by omega) h
      have hpw := hpos (by omega)
      have e1 : 128 ^ (i + 1) = 128 ^ i * 128 := Nat.pow_succ _ _
      refine ⟨bN t (a + i) % 128 + 128 * w, ?_, by omega, he, ?_, fun _ => by omega, ?_⟩
      · rw [hu, e1, Nat.add_mul, show 128 * w * 128 ^ i = w * (128 ^ i * 128) from by rw [Nat.mul_comm 128 w, Nat.mul_assoc, Nat.mul_comm 128]]; omega
      · rw [extract_split (b := a + i + 1) (by omega) (by omega), hx, vb_hi (by omega), show (bN t (a + i) % 128 + 128 * w) % 128 + 128 = bN t (a + i) by omega, show (bN t (a + i) % 128 + 128 * w) / 128 = w by omega, ← hw]; rfl
      · rw [e1] at hbd
        rw [Nat.add_mul, show 128 * w * 128 ^ i = w * (128 ^ i * 128) from by rw [Nat.mul_comm 128 w, Nat.mul_assoc, Nat.mul_comm 128]]
        have h9 := pow128 hi8
        rw [e1] at h9
        have : bN t (a + i) % 128 * 128 ^ i + 128 ^ i ≤ 128 * 128 ^ i := by
          rw [← Nat.succ_mul]; exact Nat.mul_le_mul_right _ (by omega)
        omega
    · rename_i h3
      split at h
      · cases h
      rename_i h4
      cases h
      refine ⟨bN t (a + i), rfl, by omega, by omega, ?_, fun hi0 => by omega, ?_⟩
      · rw [hx, vb_lo (by omega)]
      · rcases Nat.lt_or_ge i 9 with h8 | h8
        · have h9 := pow128 (i := i) (by omega)
          rw [Nat.pow_succ] at h9
          have : bN t (a + i) * 128 ^ i + 128 ^ i ≤ 128 * 128 ^ i := by rw [← Nat.succ_mul]; exact Nat.mul_le_mul_right _ (by omega)
          omega
        · have e9 : i = 9 := by omega
          subst e9
          have h9 : 128 ^ 9 = 9223372036854775808 := by decide
          rw [h9]
          omega
def pNum (t : ByteArray) (a : Nat) : Option (Int × Nat) := (gn t a 0 0).map fun p => (unfoldN p.1, p.2)
def pWord (t : ByteArray) (a : Nat) : Option (ByteArray × Nat) := match pNum t a with
  | none => none
  | some (n, e) => if 0 ≤ n ∧ n ≤ 20000 ∧ n ≤ (t.size : Int) - e then some (t.extract e (e + n.toNat), e + n.toNat) else none
def pMany (k : Int) (t : ByteArray) (a : Nat) : Option (Nat × Nat) := match pNum t a with
  | none => none
  | some (n, e) => if 0 ≤ n ∧ n ≤ k then some (n.toNat, e) else none
theorem pNum_enc {t : ByteArray} {a e : Nat} {n : Int} (h : pNum t a = some (n, e)) : a < e ∧ e ≤ t.size ∧ t.extract a e = nb n ∧ InR (-9223372036854775808) 9223372036854775807 n := by
  unfold pNum at h
  rw [Option.map_eq_some_iff] at h
  obtain ⟨⟨u, e'⟩, h1, h2⟩ := h
  cases h2
  obtain ⟨w, hu, hlt, he, hw, _, hbd⟩ := gn_enc 10 t a 0 0 u e' (by omega) (by omega) h1
  simp only [Nat.pow_zero, Nat.mul_one, Nat.zero_add, Nat.add_zero] at hu hlt hw hbd
  subst hu
  have hf := fold_unfold (u := u) (by omega)
  refine ⟨hlt, he, ?_, hf.2⟩
  dsimp only
  unfold nb
  rw [hf.1, hw]
theorem pWord_enc {t : ByteArray} {a e : Nat} {s : ByteArray} (h : pWord t a = some (s, e)) : a < e ∧ e ≤ t.size ∧ t.extract a e = vt s ∧ s.size ≤ 20000 := by
  unfold pWord at h
  split at h
  · cases h
  rename_i n e0 h1
  obtain ⟨h2, h3, h4, h5⟩ := pNum_enc h1
  split at h
  · rename_i hc
    cases h
    have hs : (t.extract e0 (e0 + n.toNat)).size = n.toNat := by rw [ByteArray.size_extract]; omega
    refine ⟨by omega, by omega, ?_, by omega⟩
    rw [extract_split (b := e0) (by omega) (by omega), h4]
    unfold vt nb
    rw [hs, show ((n.toNat : Nat) : Int) = n by omega]
  · cases h
def rdO (t : ByteArray) (a : Nat) (b : Bool) : AObj := ⟨[[.string t, .int .i64 a, .bool b]], 3, true⟩
structure Rd {α : Type} (p : Option (α × Nat)) (t : ByteArray) (b : Bool) (x : α) (a' : Nat) (b' : Bool) : Prop where
  bad : b = true → b' = true
  ok : b = false → b' = false → p = some (x, a')
  no : b = false → b' = true → p = none
  le : a' ≤ t.size
theorem rd_ld {h : AHeap} {l : Nat} {t : ByteArray} {a : Nat} {b : Bool} (hg : h.get l = some (rdO t a b)) : h.ld l 0 0 1 = some [.string t] ∧ h.ld l 0 1 1 = some [.int .i64 a] ∧ h.ld l 0 2 1 = some [.bool b] ∧ h.ld l 0 0 3 = some [.string t, .int .i64 a, .bool b] := by
  refine ⟨?_, ?_, ?_, ?_⟩ <;> (unfold AHeap.ld; rw [hg]; rfl)
theorem rd_wrA {h : AHeap} {l : Nat} {t : ByteArray} {a a' : Nat} {b : Bool} (hg : h.get l = some (rdO t a b)) : h.wr l 0 1 [.int .i64 a'] = some (h.put l (some (rdO t a' b))) := by
  unfold AHeap.wr; rw [hg]; rfl
theorem rd_wrB {h : AHeap} {l : Nat} {t : ByteArray} {a : Nat} {b b' : Bool} (hg : h.get l = some (rdO t a b)) : h.wr l 0 2 [.bool b'] = some (h.put l (some (rdO t a b'))) := by
  unfold AHeap.wr; rw [hg]; rfl
theorem rd_out {h : AHeap} {l : Nat} {t : ByteArray} {a a' : Nat} {b b' : Bool} (hg : h.get l = some (rdO t a b)) : Out [l] h (h.put l (some (rdO t a' b'))) := Out.put hg rfl
theorem rd_wf {h : AHeap} {l : Nat} {o o' : AObj} (hw : h.wf) (hg : h.get l = some o) : (h.put l (some o')).wf := hw.put (hw.lt hg) _
end Go.Dat
namespace Go.Proofs.Ytanienlcebkijaa
open Go.Abs Go.Dat
set_option maxRecDepth 100000
set_option maxHeartbeats 8000000
theorem num_cases {f : Int → Int → Int → Value} {t : ByteArray} {a : Nat} {v : Value} (hv : numTo f (gn t a 0 0) v) : (pNum t a = none ∧ ∃ c : Int, 0 < c ∧ c < 100 ∧ v = f 0 0 c) ∨ ∃ (n : Int) (e : Nat), pNum t a = some (n, e) ∧ v = f n e 0 := by
  unfold pNum
  cases hg : gn t a 0 0 with
  | none => rw [hg] at hv; exact .inl ⟨rfl, hv⟩
  | some p => rw [hg] at hv; exact .inr ⟨_, _, rfl, hv⟩
theorem getText_spec (h : AHeap) (t : ByteArray) (a : Nat) (ht : t.size ≤ 20000) (ha : a ≤ 1000000000) : ∃ v h', ACall Try.prog 196 [.string t, .int .i64 a] h v h' ∧ h' = h ∧ ((pWord t a = none ∧ ∃ c : Int, 0 < c ∧ v = .tuple #[.string ⟨#[]⟩, .int .i64 0, .int .i64 c]) ∨ ∃ (s : ByteArray) (e : Nat), pWord t a = some (s, e) ∧ v = .tuple #[.string s, .int .i64 e, .int .i64 0]) := by
  obtain ⟨v, g, A, hv, rfl⟩ := getNum_spec h t a (by omega) ha
  refine acall_q fun Q HQ => ?_
  refine acall_vc (fun _ => false) (fun _ => []) (fun _ => .none) mixed Try.func196 rfl rfl rfl (Nat.le_of_ble_eq_true rfl) (by refine vc_mp (by kernel_rfl : (True ∧ True ∧ (True ∧ (True ∧ True) ∧ True ∧ (True ∧ True) ∧ True ∧ (True ∧ True) ∧ True) ∧ True ∧ True) = _) ?_; simp only [and_self]) ?_
  refine vc_mp (by kernel_rfl : (∃ (x : Int), ∃ (x_1 : Int), ∃ (x_2 : Int), ∃ (h' : AHeap), ACall Try.prog (195 : Nat) [Value.string t, Value.int IntKind.i64 (↑a : Int)] g (Value.tuple (Array.mk [Value.int IntKind.i64 x, Value.int IntKind.i64 x_1, Value.int IntKind.i64 x_2])) h' ∧ bs (!decide (x_2 = (0 : Int))) (Q (Value.tuple (Array.mk [Value.string (ByteArray.mk (Array.mk [])), Value.int IntKind.i64 (0 : Int), Value.int IntKind.i64 x_2])) h') (∃ (x_3 : Bool), ∃ (h'_1 : AHeap), ACall Try.prog (76 : Nat) [Value.int IntKind.i64 x, Value.int IntKind.i64 (0 : Int), Value.int IntKind.i64 (20000 : Int)] h' (Value.bool x_3) h'_1 ∧ bs (!x_3) (Q (Value.tuple (Array.mk [Value.string (ByteArray.mk (Array.mk [])), Value.int IntKind.i64 (0 : Int), Value.int IntKind.i64 (3 : Int)])) h'_1) (bs (decide (x > IntKind.wrap IntKind.i64 ((↑(ByteArray.size t) : Int) - x_1))) (Q (Value.tuple (Array.mk [Value.string (ByteArray.mk (Array.mk [])), Value.int IntKind.i64 (0 : Int), Value.int IntKind.i64 (4 : Int)])) h'_1) ((0 : Int) ≤ x_1 ∧ x_1 ≤ IntKind.wrap IntKind.i64 (x_1 + x) ∧ IntKind.wrap IntKind.i64 (x_1 + x) ≤ (↑(ByteArray.size t) : Int) ∧ Q (Value.tuple (Array.mk [Value.string (ByteArray.extract t (Int.toNat x_1) (Int.toNat (IntKind.wrap IntKind.i64 (x_1 + x)))), Value.int IntKind.i64 (IntKind.wrap IntKind.i64 (x_1 + x)), Value.int IntKind.i64 (0 : Int)])) h'_1)))) = _) ?_
  unfold pWord at HQ
  rcases num_cases hv with ⟨hn, c, h1, h2, rfl⟩ | ⟨n, e, hn, rfl⟩
  · rw [hn] at HQ
    exact ⟨_, _, _, _, A, bs_dn (fun _ => HQ _ _ ⟨rfl, .inl ⟨rfl, c, h1, rfl⟩⟩) (fun e => absurd e (by omega))⟩
  · obtain ⟨q1, q2, q3, q4⟩ := pNum_enc hn
    unfold InR at q4
    rw [hn] at HQ
    dsimp only at HQ
    have e1 : IntKind.i64.wrap ((t.size : Int) - (e : Int)) = (t.size : Int) - e := wrap_i64 (by omega)
    refine ⟨_, _, _, _, A, bs_dn (fun h => absurd rfl h) (fun _ => ⟨_, _, within_spec n 0 20000 _, bs_nb (fun h1 => ?_) (fun h1 => ?_)⟩)⟩
    · rw [if_neg (by intro H; simp [H.1, H.2.1] at h1)] at HQ
      exact HQ _ _ ⟨rfl, .inl ⟨rfl, 3, by decide, rfl⟩⟩
    rw [e1]
    refine bs_d (fun h2 => ?_) (fun h2 => ?_)
    · rw [if_neg (by intro H; omega)] at HQ
      exact HQ _ _ ⟨rfl, .inl ⟨rfl, 4, by decide, rfl⟩⟩
    · have h3 : 0 ≤ n ∧ n ≤ 20000 := by simpa using h1
      rw [if_pos (by omega)] at HQ
      have e2 : IntKind.i64.wrap ((e : Int) + n) = ((e + n.toNat : Nat) : Int) := by rw [wrap_i64 (by omega)]; omega
      rw [e2]
      exact ⟨by omega, by omega, by omega, HQ _ _ ⟨rfl, .inr ⟨_, _, rfl, rfl⟩⟩⟩
theorem specGetText (h : AHeap) (t : ByteArray) (a : Nat) (ht : t.size ≤ 20000) (ha : a ≤ 1000000000) : ∃ v h', ACall Try.prog 200 [.string t, .int .i64 a] h v h' ∧ h' = h ∧ ((pWord t a = none ∧ ∃ c : Int, 0 < c ∧ v = .agg #[.string ⟨#[]⟩, .int .i64 0, .int .i64 c]) ∨ ∃ (s : ByteArray) (e : Nat), pWord t a = some (s, e) ∧ v = .agg #[.string s, .int .i64 e, .int .i64 0]) := by
  obtain ⟨v, g, A, hv, rfl⟩ := specGetNum h t a (by omega) ha
  refine acall_q fun Q HQ => ?_
  refine acall_vc (fun _ => false) (fun r => match r with | 8 => [(0, 0, []), (1, 0, []), (3, 0, []), (5, 0, []), (9, 0, []), (11, 0, []), (2, 1, []), (4, 1, []), (6, 1, []), (7, 0, []), (8, 0, []), (10, 1, []), (12, 1, []), (13, 0, []), (14, 0, []), (15, 3, [])] | _ => []) (fun _ => .none) mixed Try.func200 rfl rfl rfl (Nat.le_of_ble_eq_true rfl) (by refine vc_mp (by kernel_rfl : (True ∧ True ∧ (True ∧ (True ∧ True) ∧ True) ∧ (True ∧ (True ∧ True) ∧ True) ∧ (True ∧ (True ∧ True) ∧ True) ∧ True ∧ True) = _) ?_; simp only [and_self]) ?_
  refine vc_mp (by kernel_rfl : (∃ (x : Int), ∃ (x_1 : Int), ∃ (x_2 : Int), ∃ (h' : AHeap), ACall Try.prog (199 : Nat) [Value.string t, Value.int IntKind.i64 (↑a : Int)] g (Value.agg (Array.mk [Value.int IntKind.i64 x, Value.int IntKind.i64 x_1, Value.int IntKind.i64 x_2])) h' ∧ bs (!decide (x_2 = (0 : Int))) (Q (Value.agg (Array.mk [Value.string (ByteArray.mk (Array.mk [])), Value.int IntKind.i64 (Int.ofNat (0 : Nat)), Value.int IntKind.i64 x_2])) h') (bs (decide (x < (0 : Int))) (Q (Value.agg (Array.mk [Value.string (ByteArray.mk (Array.mk [])), Value.int IntKind.i64 (Int.ofNat (0 : Nat)), Value.int IntKind.i64 (3 : Int)])) h') (bs (decide (x > (20000 : Int))) (Q (Value.agg (Array.mk [Value.string (ByteArray.mk (Array.mk [])), Value.int IntKind.i64 (Int.ofNat (0 : Nat)), Value.int IntKind.i64 (3 : Int)])) h') (bs (decide (x_1 > IntKind.wrap IntKind.i64 ((↑(ByteArray.size t) : Int) - x))) (Q (Value.agg (Array.mk [Value.string (ByteArray.mk (Array.mk [])), Value.int IntKind.i64 (Int.ofNat (0 : Nat)), Value.int IntKind.i64 (4 : Int)])) h') ((0 : Int) ≤ x_1 ∧ x_1 ≤ IntKind.wrap IntKind.i64 (x_1 + x) ∧ IntKind.wrap IntKind.i64 (x_1 + x) ≤ (↑(ByteArray.size t) : Int) ∧ Q (Value.agg (Array.mk [Value.string (ByteArray.extract t (Int.toNat x_1) (Int.toNat (IntKind.wrap IntKind.i64 (x_1 + x)))), Value.int IntKind.i64 (IntKind.wrap IntKind.i64 (x_1 + x)), Value.int IntKind.i64 (Int.ofNat (0 : Nat))])) h'))))) = _) ?_
  unfold pWord at HQ
  rcases num_cases hv with ⟨hn, c, h1, h2, rfl⟩ | ⟨n, e, hn, rfl⟩
  · rw [hn] at HQ
    exact ⟨_, _, _, _, A, bs_dn (fun _ => HQ _ _ ⟨rfl, .inl ⟨rfl, c, h1, rfl⟩⟩) (fun e => absurd e (by omega))⟩
  · obtain ⟨q1, q2, q3, q4⟩ := pNum_enc hn
    unfold InR at q4
    rw [hn] at HQ
    dsimp only at HQ
    have no : ∀ c : Int, 0 < c → ¬ (0 ≤ n ∧ n ≤ 20000 ∧ n ≤ (t.size : Int) - e) → Q (.agg #[.string ⟨#[]⟩, .int .i64 0, .int .i64 c]) g := fun c hc H => by
      rw [if_neg H] at HQ
      exact HQ _ _ ⟨rfl, .inl ⟨rfl, c, hc, rfl⟩⟩
    refine ⟨_, _, _, _, A, bs_dn (fun h => absurd rfl h) (fun _ => bs_d (fun h1 => no 3 (by decide) (by omega)) (fun h1 => bs_d (fun h2 => no 3 (by decide) (by omega)) (fun h2 => ?_)))⟩
    have e1 : IntKind.i64.wrap ((t.size : Int) - n) = (t.size : Int) - n := wrap_i64 (by omega)
    rw [e1]
    refine bs_d (fun h3 => no 4 (by decide) (by omega)) (fun h3 => ?_)
    rw [if_pos (by omega)] at HQ
    have e2 : IntKind.i64.wrap ((e : Int) + n) = ((e + n.toNat : Nat) : Int) := by rw [wrap_i64 (by omega)]; omega
    rw [e2]
    exact ⟨by omega, by omega, by omega, HQ _ _ ⟨rfl, .inr ⟨_, _, rfl, rfl⟩⟩⟩
def RdNum (h : AHeap) (l : Nat) (t : ByteArray) (a : Nat) (b : Bool) (v : Value) (h' : AHeap) : Prop :=
  h'.wf ∧ Out [l] h h' ∧ ∃ (x : Int) (a' : Nat) (b' : Bool), v = .int .i64 x ∧ InR (-9223372036854775808) 9223372036854775807 x ∧ h'.get l = some (rdO t a' b') ∧ Rd (pNum t a) t b x a' b'
def RdWord (h : AHeap) (l : Nat) (t : ByteArray) (a : Nat) (b : Bool) (v : Value) (h' : AHeap) : Prop :=
  h'.wf ∧ Out [l] h h' ∧ ∃ (x : ByteArray) (a' : Nat) (b' : Bool), v = .string x ∧ x.size ≤ 20000 ∧ h'.get l = some (rdO t a' b') ∧ Rd (pWord t a) t b x a' b'
theorem rnum_spec (h : AHeap) (hw : h.wf) (l : Nat) (t : ByteArray) (a : Nat) (b : Bool) (ht : t.size ≤ 20000) (ha : a ≤ t.size) (hg : h.get l = some (rdO t a b)) : ∃ v h', ACall Try.prog 162 [.pointer (some ⟨l, 0, some 0⟩)] h v h' ∧ RdNum h l t a b v h' := by
  obtain ⟨v, g, A, hv, rfl⟩ := getNum_spec h t a (by omega) (by omega)
  obtain ⟨d1, d2, d3, _⟩ := rd_ld hg
  refine acall_q fun Q HQ => ?_
  refine acall_vc (fun _ => false) (fun r => match r with | 1 => [(0, 0, []), (1, 0, []), (2, 0, []), (4, 0, []), (5, 0, []), (6, 0, []), (3, 1, []), (7, 1, []), (8, 3, []), (9, 0, []), (10, 0, []), (11, 0, []), (12, 0, []), (13, 0, []), (14, 0, []), (15, 0, [])] | _ => []) (fun _ => .none) mixed Try.func162 rfl rfl rfl (Nat.le_of_ble_eq_true rfl) (by refine vc_mp (by kernel_rfl : (True ∧ True ∧ (True ∧ (True ∧ True ∧ True) ∧ True) ∧ True ∧ True ∧ True) = _) ?_; simp only [and_self]) ?_
  refine vc_mp (by kernel_rfl : (∃ (x : ByteArray), AHeap.ld g l (0 : Nat) (0 : Nat) (1 : Nat) = some [Value.string x] ∧ ∃ (x_1 : Int), AHeap.ld g l (0 : Nat) (1 : Nat) (1 : Nat) = some [Value.int IntKind.i64 x_1] ∧ ∃ (x_2 : Int), ∃ (x_3 : Int), ∃ (x_4 : Int), ∃ (h' : AHeap), ACall Try.prog (195 : Nat) [Value.string x, Value.int IntKind.i64 x_1] g (Value.tuple (Array.mk [Value.int IntKind.i64 x_2, Value.int IntKind.i64 x_3, Value.int IntKind.i64 x_4])) h' ∧ bs (!decide (x_4 = (0 : Int))) (∃ (h'_1 : AHeap), AHeap.wr h' l (0 : Nat) (2 : Nat) [Value.bool true] = some h'_1 ∧ Q (Value.int IntKind.i64 (0 : Int)) h'_1) (∃ (h'_1 : AHeap), AHeap.wr h' l (0 : Nat) (1 : Nat) [Value.int IntKind.i64 x_3] = some h'_1 ∧ Q (Value.int IntKind.i64 x_2) h'_1)) = _) ?_
  refine ⟨_, d1, _, d2, ?_⟩
  rcases num_cases hv with ⟨hn, c, h1, h2, rfl⟩ | ⟨n, e, hn, rfl⟩
  · exact ⟨_, _, _, _, A, bs_dn (fun _ => ⟨_, rd_wrB hg, HQ _ _ ⟨rd_wf hw hg, rd_out hg, 0, a, true, rfl, by unfold InR; omega, AHeap.get_put_eq, ⟨fun _ => rfl, fun _ e => (by cases e), fun _ _ => hn, ha⟩⟩⟩) (fun e => absurd e (by omega))⟩
  · obtain ⟨q1, q2, q3, q4⟩ := pNum_enc hn
    exact ⟨_, _, _, _, A, bs_dn (fun h => absurd rfl h) (fun _ => ⟨_, rd_wrA hg, HQ _ _ ⟨rd_wf hw hg, rd_out hg, n, e, b, rfl, q4, AHeap.get_put_eq, ⟨fun h => h, fun _ _ => hn, fun h1 h2 => absurd (h1.symm.trans h2) (by decide), q2⟩⟩⟩)⟩
def o3 (a b c : Value) : AObj := ⟨[[a, b, c]], 3, true⟩
theorem o3_wr {h : AHeap} {l : Nat} {a b c a' b' c' : Value} (hg : h.get l = some (o3 a b c)) : h.wr l 0 0 [a', b', c'] = some (h.put l (some (o3 a' b' c'))) := by
  unfold AHeap.wr; rw [hg]; rfl
theorem o3_ld {h : AHeap} {l : Nat} {a b c : Value} (hg : h.get l = some (o3 a b c)) : h.ld l 0 0 1 = some [a] ∧ h.ld l 0 1 1 = some [b] ∧ h.ld l 0 2 1 = some [c] := by
  refine ⟨?_, ?_, ?_⟩ <;> (unfold AHeap.ld; rw [hg]; rfl)
theorem srnum_spec (h : AHeap) (hw : h.wf) (l : Nat) (t : ByteArray) (a : Nat) (b : Bool) (ht : t.size ≤ 20000) (ha : a ≤ t.size) (hg : h.get l = some (rdO t a b)) : ∃ v h', ACall Try.prog 169 [.pointer (some ⟨l, 0, some 0⟩)] h v h' ∧ RdNum h l t a b v h' := by
  have hll := hw.lt hg
  obtain ⟨G, hG⟩ : ∃ G, G = h.push ⟨[[.int .i64 (Int.ofNat 0), .int .i64 (Int.ofNat 0), .int .i64 (Int.ofNat 0)]], 3, true⟩ := ⟨_, rfl⟩
  have w0 : G.wf := by rw [hG]; exact hw.push _
  have le0 : h.Le G := by rw [hG]; exact .push hw _
  have hx0 : G.get h.n = some (o3 (.int .i64 0) (.int .i64 0) (.int .i64 0)) := by rw [hG]; exact AHeap.get_push_eq
  have hg0 := le0.get _ _ hg
  have lt0 := w0.lt hx0
  obtain ⟨v, g, A, hv, eg⟩ := specGetNum G t a (by omega) (by omega)
  rw [eg] at A
  obtain ⟨d1, d2, d3, _⟩ := rd_ld hg0
  refine acall_q fun Q HQ => ?_
  refine acall_vc (fun t => t == 3) (fun r => match r with | 1 => [(9, 2, []), (0, 0, []), (1, 0, []), (2, 0, []), (4, 0, []), (5, 0, []), (6, 0, []), (3, 1, []), (7, 1, []), (8, 3, [9]), (10, 3, [])] | _ => []) (fun _ => .none) mixed Try.func169 rfl rfl rfl (Nat.le_of_ble_eq_true rfl) (by refine vc_mp (by kernel_rfl : (True ∧ True ∧ (True ∧ (True ∧ True ∧ True) ∧ True) ∧ True ∧ True ∧ True) = _) ?_; simp only [and_self]) ?_
  refine vc_mp (by kernel_rfl : (∃ (x : ByteArray), AHeap.ld (AHeap.push h (AObj.mk [[Value.int IntKind.i64 (Int.ofNat (0 : Nat)), Value.int IntKind.i64 (Int.ofNat (0 : Nat)), Value.int IntKind.i64 (Int.ofNat (0 : Nat))]] (3 : Nat) true)) l (0 : Nat) (0 : Nat) (1 : Nat) = some [Value.string x] ∧ ∃ (x_1 : Int), AHeap.ld (AHeap.push h (AObj.mk [[Value.int IntKind.i64 (Int.ofNat (0 : Nat)), Value.int IntKind.i64 (Int.ofNat (0 : Nat)), Value.int IntKind.i64 (Int.ofNat (0 : Nat))]] (3 : Nat) true)) l (0 : Nat) (1 : Nat) (1 : Nat) = some [Value.int IntKind.i64 x_1] ∧ ∃ (x_2 : Int), ∃ (x_3 : Int), ∃ (x_4 : Int), ∃ (h' : AHeap), ACall Try.prog (199 : Nat) [Value.string x, Value.int IntKind.i64 x_1] (AHeap.push h (AObj.mk [[Value.int IntKind.i64 (Int.ofNat (0 : Nat)), Value.int IntKind.i64 (Int.ofNat (0 : Nat)), Value.int IntKind.i64 (Int.ofNat (0 : Nat))]] (3 : Nat) true)) (Value.agg (Array.mk [Value.int IntKind.i64 x_2, Value.int IntKind.i64 x_3, Value.int IntKind.i64 x_4])) h' ∧ (AHeap.get h' (AHeap.n h) = AHeap.get (AHeap.push h (AObj.mk [[Value.int IntKind.i64 (Int.ofNat (0 : Nat)), Value.int IntKind.i64 (Int.ofNat (0 : Nat)), Value.int IntKind.i64 (Int.ofNat (0 : Nat))]] (3 : Nat) true)) (AHeap.n h) ∧ AHeap.n (AHeap.push h (AObj.mk [[Value.int IntKind.i64 (Int.ofNat (0 : Nat)), Value.int IntKind.i64 (Int.ofNat (0 : Nat)), Value.int IntKind.i64 (Int.ofNat (0 : Nat))]] (3 : Nat) true)) ≤ AHeap.n h') ∧ ∃ (h'_1 : AHeap), AHeap.wr h' (AHeap.n h) (0 : Nat) (0 : Nat) [Value.int IntKind.i64 x_2, Value.int IntKind.i64 x_3, Value.int IntKind.i64 x_4] = some h'_1 ∧ ∃ (x : Bool), AHeap.ld h'_1 l (0 : Nat) (2 : Nat) (1 : Nat) = some [Value.bool x] ∧ bs x (∃ (h' : AHeap), AHeap.wr h'_1 l (0 : Nat) (2 : Nat) [Value.bool true] = some h' ∧ Q (Value.int IntKind.i64 (0 : Int)) h') (∃ (x : Int), AHeap.ld h'_1 (AHeap.n h) (0 : Nat) (2 : Nat) (1 : Nat) = some [Value.int IntKind.i64 x] ∧ bs (!decide (x = (0 : Int))) (∃ (h' : AHeap), AHeap.wr h'_1 l (0 : Nat) (2 : Nat) [Value.bool true] = some h' ∧ Q (Value.int IntKind.i64 (0 : Int)) h') (∃ (x : Int), AHeap.ld h'_1 (AHeap.n h) (0 : Nat) (1 : Nat) (1 : Nat) = some [Value.int IntKind.i64 x] ∧ ∃ (h' : AHeap), AHeap.wr h'_1 l (0 : Nat) (1 : Nat) [Value.int IntKind.i64 x] = some h' ∧ ∃ (x : Int), AHeap.ld h' (AHeap.n h) (0 : Nat) (0 : Nat) (1 : Nat) = some [Value.int IntKind.i64 x] ∧ Q (Value.int IntKind.i64 x) h'))) = _) ?_
  rw [← hG]
  refine ⟨_, d1, _, d2, ?_⟩
  obtain ⟨n, e, c, rfl, hcase⟩ : ∃ (n : Int) (e : Nat) (c : Int), v = .agg #[.int .i64 n, .int .i64 e, .int .i64 c] ∧ ((pNum t a = none ∧ 0 < c) ∨ (pNum t a = some (n, e) ∧ c = 0)) := by
    rcases num_cases hv with ⟨hn, c, h1, h2, rfl⟩ | ⟨n, e, hn, rfl⟩
    · exact ⟨0, 0, c, rfl, .inl ⟨hn, h1⟩⟩
    · exact ⟨n, e, 0, rfl, .inr ⟨hn, rfl⟩⟩
  have hG1 : (G.put h.n (some (o3 (.int .i64 n) (.int .i64 e) (.int .i64 c)))).get l = some (rdO t a b) := by rw [AHeap.get_put_ne (by omega)]; exact hg0
  have hx1 : (G.put h.n (some (o3 (.int .i64 n) (.int .i64 e) (.int .i64 c)))).get h.n = some (o3 (.int .i64 n) (.int .i64 e) (.int .i64 c)) := AHeap.get_put_eq
  have w1 : (G.put h.n (some (o3 (.int .i64 n) (.int .i64 e) (.int .i64 c)))).wf := w0.put lt0 _
  have o1 : Out [l] h (G.put h.n (some (o3 (.int .i64 n) (.int .i64 e) (.int .i64 c)))) := .of_le (le0.put (hw _ (Nat.le_refl _)) _)
  refine ⟨_, _, _, _, A, ⟨rfl, Nat.le_refl _⟩, _, o3_wr hx0, ?_⟩
  generalize hG' : G.put h.n (some (o3 (.int .i64 n) (.int .i64 e) (.int .i64 c))) = G' at *
  obtain ⟨f1, f2, f3, _⟩ := rd_ld hG1
  obtain ⟨x1, x2, x3⟩ := o3_ld hx1
  refine ⟨_, f3, ?_⟩
  have bad : (b = false → pNum t a = none) → Q (.int .i64 0) (G'.put l (some (rdO t a true))) := fun hb => HQ _ _ ⟨rd_wf w1 hG1, o1.trans (rd_out hG1), 0, a, true, rfl, by unfold InR; omega, AHeap.get_put_eq, ⟨fun _ => rfl, fun _ e => (by cases e), fun h _ => hb h, ha⟩⟩
  cases b with
  | true => exact ⟨_, rd_wrB hG1, bad (fun e => by cases e)⟩
  | false =>
    refine ⟨_, x3, ?_⟩
    rcases hcase with ⟨hn, hc⟩ | ⟨hn, rfl⟩
    · exact bs_dn (fun _ => ⟨_, rd_wrB hG1, bad (fun _ => hn)⟩) (fun e => absurd e (by omega))
    · obtain ⟨q1, q2, q3, q4⟩ := pNum_enc hn
      refine bs_dn (fun h => absurd rfl h) (fun _ => ⟨_, x2, _, rd_wrA hG1, ?_⟩)
      have x4 : (G'.put l (some (rdO t e false))).get h.n = some (o3 (.int .i64 n) (.int .i64 e) (.int .i64 0)) := by rw [AHeap.get_put_ne (by omega)]; exact hx1
      exact ⟨_, (o3_ld x4).1, HQ _ _ ⟨rd_wf w1 hG1, o1.trans (rd_out hG1), n, e, false, rfl, q4, AHeap.get_put_eq, ⟨fun h => h, fun _ _ => hn, fun _ h2 => (by cases h2), q2⟩⟩⟩
theorem srtext_spec (h : AHeap) (hw : h.wf) (l : Nat) (t : ByteArray) (a : Nat) (b : Bool) (ht : t.size ≤ 20000) (ha : a ≤ t.size) (hg : h.get l = some (rdO t a b)) : ∃ v h', ACall Try.prog 170 [.pointer (some ⟨l, 0, some 0⟩)] h v h' ∧ RdWord h l t a b v h' := by
  have hll := hw.lt hg
  obtain ⟨G, hG⟩ : ∃ G, G = h.push ⟨[[.string ⟨#[]⟩, .int .i64 (Int.ofNat 0), .int .i64 (Int.ofNat 0)]], 3, true⟩ := ⟨_, rfl⟩
  have w0 : G.wf := by rw [hG]; exact hw.push _
  have le0 : h.Le G := by rw [hG]; exact .push hw _
  have hx0 : G.get h.n = some (o3 (.string ⟨#[]⟩) (.int .i64 0) (.int .i64 0)) := by rw [hG]; exact AHeap.get_push_eq
  have hg0 := le0.get _ _ hg
  have lt0 := w0.lt hx0
  obtain ⟨v, g, A, eg, hv⟩ := specGetText G t a (by omega) (by omega)
  rw [eg] at A
  obtain ⟨d1, d2, d3, _⟩ := rd_ld hg0
  refine acall_q fun Q HQ => ?_
  refine acall_vc (fun t => t == 3) (fun r => match r with | 1 => [(9, 2, []), (0, 0, []), (1, 0, []), (2, 0, []), (4, 0, []), (5, 0, []), (6, 0, []), (3, 1, []), (7, 1, []), (8, 3, [9]), (10, 3, [])] | _ => []) (fun _ => .none) mixed Try.func170 rfl rfl rfl (Nat.le_of_ble_eq_true rfl) (by refine vc_mp (by kernel_rfl : (True ∧ True ∧ (True ∧ (True ∧ True ∧ True) ∧ True) ∧ True ∧ True ∧ True) = _) ?_; simp only [and_self]) ?_
  refine vc_mp (by kernel_rfl : (∃ (x : ByteArray), AHeap.ld (AHeap.push h (AObj.mk [[Value.string (ByteArray.mk (Array.mk [])), Value.int IntKind.i64 (Int.ofNat (0 : Nat)), Value.int IntKind.i64 (Int.ofNat (0 : Nat))]] (3 : Nat) true)) l (0 : Nat) (0 : Nat) (1 : Nat) = some [Value.string x] ∧ ∃ (x_1 : Int), AHeap.ld (AHeap.push h (AObj.mk [[Value.string (ByteArray.mk (Array.mk [])), Value.int IntKind.i64 (Int.ofNat (0 : Nat)), Value.int IntKind.i64 (Int.ofNat (0 : Nat))]] (3 : Nat) true)) l (0 : Nat) (1 : Nat) (1 : Nat) = some [Value.int IntKind.i64 x_1] ∧ ∃ (x_2 : ByteArray), ∃ (x_3 : Int), ∃ (x_4 : Int), ∃ (h' : AHeap), ACall Try.prog (200 : Nat) [Value.string x, Value.int IntKind.i64 x_1] (AHeap.push h (AObj.mk [[Value.string (ByteArray.mk (Array.mk [])), Value.int IntKind.i64 (Int.ofNat (0 : Nat)), Value.int IntKind.i64 (Int.ofNat (0 : Nat))]] (3 : Nat) true)) (Value.agg (Array.mk [Value.string x_2, Value.int IntKind.i64 x_3, Value.int IntKind.i64 x_4])) h' ∧ (AHeap.get h' (AHeap.n h) = AHeap.get (AHeap.push h (AObj.mk [[Value.string (ByteArray.mk (Array.mk [])), Value.int IntKind.i64 (Int.ofNat (0 : Nat)), Value.int IntKind.i64 (Int.ofNat (0 : Nat))]] (3 : Nat) true)) (AHeap.n h) ∧ AHeap.n (AHeap.push h (AObj.mk [[Value.string (ByteArray.mk (Array.mk [])), Value.int IntKind.i64 (Int.ofNat (0 : Nat)), Value.int IntKind.i64 (Int.ofNat (0 : Nat))]] (3 : Nat) true)) ≤ AHeap.n h') ∧ ∃ (h'_1 : AHeap), AHeap.wr h' (AHeap.n h) (0 : Nat) (0 : Nat) [Value.string x_2, Value.int IntKind.i64 x_3, Value.int IntKind.i64 x_4] = some h'_1 ∧ ∃ (x : Bool), AHeap.ld h'_1 l (0 : Nat) (2 : Nat) (1 : Nat) = some [Value.bool x] ∧ bs x (∃ (h' : AHeap), AHeap.wr h'_1 l (0 : Nat) (2 : Nat) [Value.bool true] = some h' ∧ Q (Value.string (ByteArray.mk (Array.mk []))) h') (∃ (x : Int), AHeap.ld h'_1 (AHeap.n h) (0 : Nat) (2 : Nat) (1 : Nat) = some [Value.int IntKind.i64 x] ∧ bs (!decide (x = (0 : Int))) (∃ (h' : AHeap), AHeap.wr h'_1 l (0 : Nat) (2 : Nat) [Value.bool true] = some h' ∧ Q (Value.string (ByteArray.mk (Array.mk []))) h') (∃ (x : Int), AHeap.ld h'_1 (AHeap.n h) (0 : Nat) (1 : Nat) (1 : Nat) = some [Value.int IntKind.i64 x] ∧ ∃ (h' : AHeap), AHeap.wr h'_1 l (0 : Nat) (1 : Nat) [Value.int IntKind.i64 x] = some h' ∧ ∃ (x : ByteArray), AHeap.ld h' (AHeap.n h) (0 : Nat) (0 : Nat) (1 : Nat) = some [Value.string x] ∧ Q (Value.string x) h'))) = _) ?_
  rw [← hG]
  refine ⟨_, d1, _, d2, ?_⟩
  obtain ⟨n, e, c, rfl, hcase⟩ : ∃ (n : ByteArray) (e : Nat) (c : Int), v = .agg #[.string n, .int .i64 e, .int .i64 c] ∧ ((pWord t a = none ∧ 0 < c) ∨ (pWord t a = some (n, e) ∧ c = 0)) := by
    rcases hv with ⟨hn, c, h1, rfl⟩ | ⟨n, e, hn, rfl⟩
    · exact ⟨⟨#[]⟩, 0, c, rfl, .inl ⟨hn, h1⟩⟩
    · exact ⟨n, e, 0, rfl, .inr ⟨hn, rfl⟩⟩
  have hG1 : (G.put h.n (some (o3 (.string n) (.int .i64 e) (.int .i64 c)))).get l = some (rdO t a b) := by rw [AHeap.get_put_ne (by omega)]; exact hg0
  have hx1 : (G.put h.n (some (o3 (.string n) (.int .i64 e) (.int .i64 c)))).get h.n = some (o3 (.string n) (.int .i64 e) (.int .i64 c)) := AHeap.get_put_eq
  have w1 : (G.put h.n (some (o3 (.string n) (.int .i64 e) (.int .i64 c)))).wf := w0.put lt0 _
  have o1 : Out [l] h (G.put h.n (some (o3 (.string n) (.int .i64 e) (.int .i64 c)))) := .of_le (le0.put (hw _ (Nat.le_refl _)) _)
  refine ⟨_, _, _, _, A, ⟨rfl, Nat.le_refl _⟩, _, o3_wr hx0, ?_⟩
  generalize hG' : G.put h.n (some (o3 (.string n) (.int .i64 e) (.int .i64 c))) = G' at *
  obtain ⟨f1, f2, f3, _⟩ := rd_ld hG1
  obtain ⟨x1, x2, x3⟩ := o3_ld hx1
  refine ⟨_, f3, ?_⟩
  have bad : (b = false → pWord t a = none) → Q (.string ⟨#[]⟩) (G'.put l (some (rdO t a true))) := fun hb => HQ _ _ ⟨rd_wf w1 hG1, o1.trans (rd_out hG1), ⟨#[]⟩, a, true, rfl, by exact Nat.zero_le _, AHeap.get_put_eq, ⟨fun _ => rfl, fun _ e => (by cases e), fun h _ => hb h, ha⟩⟩
  cases b with
  | true => exact ⟨_, rd_wrB hG1, bad (fun e => by cases e)⟩
  | false =>
    refine ⟨_, x3, ?_⟩
    rcases hcase with ⟨hn, hc⟩ | ⟨hn, rfl⟩
    · exact bs_dn (fun _ => ⟨_, rd_wrB hG1, bad (fun _ => hn)⟩) (fun e => absurd e (by omega))
    · obtain ⟨q1, q2, q3, q4⟩ := pWord_enc hn
      refine bs_dn (fun h => absurd rfl h) (fun _ => ⟨_, x2, _, rd_wrA hG1, ?_⟩)
      have x4 : (G'.put l (some (rdO t e false))).get h.n = some (o3 (.string n) (.int .i64 e) (.int .i64 0)) := by rw [AHeap.get_put_ne (by omega)]; exact hx1
      exact ⟨_, (o3_ld x4).1, HQ _ _ ⟨rd_wf w1 hG1, o1.trans (rd_out hG1), n, e, false, rfl, q4, AHeap.get_put_eq, ⟨fun h => h, fun _ _ => hn, fun _ h2 => (by cases h2), q2⟩⟩⟩
end Go.Proofs.Ytanienlcebkijaa
end
