/- N0, R2, R3, Y0, T1, T2, A32, V0, V3, U1, U2, W0, W1. -/
import Derived.Test.YtanienlcebkijaaV14C2
import Derived.Test.YtanienlcebkijaaV14R1
section
namespace Go.Dat
open Go.Abs
structure Out (J : List Nat) (g g' : AHeap) : Prop where
  shp : Shp g g'
  get : ∀ z o, z ∉ J → g.get z = some o → g'.get z = some o
theorem Out.refl {J : List Nat} {g : AHeap} : Out J g g := ⟨.refl _, fun _ _ _ h => h⟩
theorem Out.trans {J : List Nat} {a b c : AHeap} (x : Out J a b) (y : Out J b c) : Out J a c := ⟨x.shp.trans y.shp, fun z o hz h => y.get z o hz (x.get z o hz h)⟩
theorem Out.widen {J K : List Nat} {a b : AHeap} (x : Out J a b) (h : ∀ z ∈ J, z ∈ K) : Out K a b := ⟨x.shp, fun z o hz => x.get z o (fun e => hz (h z e))⟩
theorem Out.of_le {J : List Nat} {a b : AHeap} (x : a.Le b) : Out J a b := ⟨x.shp, fun z o _ h => x.get z o h⟩
theorem Out.put {g : AHeap} {l e : Nat} {rows rows' : List (List Value)} {b : Bool} (hg : g.get l = some ⟨rows, e, b⟩) (hl : rows'.length = rows.length) : Out [l] g (g.put l (some ⟨rows', e, b⟩)) := by
  refine ⟨⟨Nat.le_refl _, fun z q e' b' hz => ?_⟩, fun z o hz h => ?_⟩
  · by_cases hzl : z = l
    · subst hzl
      rw [hg] at hz
      cases hz
      exact ⟨rows', AHeap.get_put_eq, hl⟩
    · exact ⟨q, by rw [AHeap.get_put_ne hzl]; exact hz, rfl⟩
  · rw [AHeap.get_put_ne (fun e => hz (by simp [e]))]; exact h
theorem Sh.ro.out {J : List Nat} {h h' : AHeap} (hs : Out J h h') : ∀ {s : Sh} {x : s.T} {cs : List Value} {ids : List Nat}, (∀ l ∈ ids, l ∉ J) → s.ro h x cs ids → s.ro h' x cs ids := by
  intro s
  induction s with
  | int => intro x cs ids _ e; exact e
  | bool => intro x cs ids _ e; exact e
  | str => intro x cs ids _ e; exact e
  | byte => intro x cs ids _ e; exact e
  | pair a b iha ihb =>
    rintro x cs ids hi ⟨c1, c2, i1, i2, e, rfl, h1, h2⟩
    exact ⟨c1, c2, i1, i2, e, rfl, iha (fun l hl => hi l (List.mem_append_left _ hl)) h1, ihb (fun l hl => hi l (List.mem_append_right _ hl)) h2⟩
  | sl e ih =>
    rintro xs cs ids hi ⟨a, n, c, rfl, hs', hn, ⟨rfl, e2, h1⟩ | ⟨l, r, rows, idss, rfl, hg, hr, hl, rfl, hx⟩⟩
    · exact ⟨a, 0, c, rfl, hs', hn, .inl ⟨rfl, e2, hs.shp.none hs' h1⟩⟩
    · refine ⟨_, n, c, rfl, hs', hn, .inr ⟨l, r, rows, idss, rfl, hs.get _ _ (hi l (by simp)) hg, hr, hl, rfl, fun i x row js h1 h2 h3 => ih (fun q hq => hi q ?_) (hx i x row js h1 h2 h3)⟩⟩
      exact List.mem_cons_of_mem _ (List.mem_flatten.2 ⟨js, List.mem_of_getElem? h3, hq⟩)
theorem So.out {J : List Nat} {h h' : AHeap} {s : Sh} {xs : List s.T} {v : Value} {ids : List Nat} (x : So h s xs v ids) (hs : Out J h h') (hi : ∀ l ∈ ids, l ∉ J) : So h' s xs v ids := by
  obtain ⟨v', e, h1⟩ := ro_sl.1 (Sh.ro.out hs hi (ro_sl.2 ⟨v, rfl, x⟩))
  cases e; exact h1
def mrkL {α : Type} (f : α → Int → α × Int) : List α → Int → List α × Int
  | [], k => ([], k)
  | x :: xs, k => ((f x k).1 :: (mrkL f xs (f x k).2).1, (mrkL f xs (f x k).2).2)
def Sh.mkd : (s : Sh) → s.T → Int → s.T × Int
  | .int, _, k => (k, k + 1)
  | .bool, _, k => (decide (k % 3 = 0), k + 1)
  | .str, _, k => (mtext k, k + 1)
  | .byte, x, k => (x, k)
  | .pair a b, x, k => (((a.mkd x.1 k).1, (b.mkd x.2 (a.mkd x.1 k).2).1), (b.mkd x.2 (a.mkd x.1 k).2).2)
  | .sl e, xs, k => mrkL (α := e.T) e.mkd xs k
def Sh.cn : (s : Sh) → s.T → Nat
  | .int, _ => 1
  | .bool, _ => 1
  | .str, _ => 1
  | .byte, _ => 0
  | .pair a b, x => a.cn x.1 + b.cn x.2
  | .sl e, xs => (List.map (α := e.T) e.cn xs).sum
theorem mrkL_cn {α : Type} {f : α → Int → α × Int} {c : α → Nat} (hf : ∀ x k, (f x k).2 = k + c x) : ∀ (xs : List α) (k : Int), (mrkL f xs k).2 = k + ((xs.map c).sum : Nat) := by
  intro xs
  induction xs with
  | nil => intro k; simp [mrkL]
  | cons x xs ih => intro k; simp only [mrkL, ih, hf, List.map_cons, List.sum_cons]; omega
theorem Sh.mkd_cn : ∀ (s : Sh) (x : s.T) (k : Int), (s.mkd x k).2 = k + s.cn x := by
  intro s
  induction s with
  | int => intro x k; rfl
  | bool => intro x k; rfl
  | str => intro x k; rfl
  | byte => intro x k; simp [Sh.mkd, Sh.cn]
  | pair a b iha ihb => intro x k; simp only [Sh.mkd, Sh.cn, iha, ihb]; omega
  | sl e ih => intro x k; exact mrkL_cn ih x k
theorem Sh.mkd_le (s : Sh) (x : s.T) (k : Int) : k ≤ (s.mkd x k).2 := by rw [s.mkd_cn]; omega
theorem Sh.mrkL_le (s : Sh) (xs : List s.T) (k : Int) : k ≤ (mrkL s.mkd xs k).2 := by rw [mrkL_cn s.mkd_cn]; omega
structure El (g0 : AHeap) (l p : Nat) (rows : List (List Value)) (e : Nat) (js : List Nat) (g : AHeap) (cs : List Value) : Prop where
  get : g.get l = some ⟨rows.set p cs, e, true⟩
  hp : p < rows.length
  wf : g.wf
  out : Out (l :: js) g0 g
theorem El.wr {g0 : AHeap} {l p : Nat} {rows : List (List Value)} {e : Nat} {js : List Nat} {g : AHeap} {cs : List Value} (E : El g0 l p rows e js g cs) (j : Nat) (ws cs' : List Value) (hj : j + ws.length ≤ cs.length) (hc : setRange cs j ws = cs') :
    ∃ g', g.wr l p j ws = some g' ∧ El g0 l p rows e js g' cs' ∧ Out [l] g g' := by
  have o : Out [l] g (g.put l (some ⟨rows.set p cs', e, true⟩)) := .put E.get (by simp)
  refine ⟨g.put l (some ⟨rows.set p cs', e, true⟩), ?_, ⟨AHeap.get_put_eq, E.hp, E.wf.put (E.wf.lt E.get) _, E.out.trans (o.widen (by simp))⟩, o⟩
  unfold AHeap.wr
  rw [E.get]
  dsimp only
  rw [List.getElem?_set, if_pos rfl, if_pos E.hp]
  dsimp only
  rw [decide_eq_true hj, Bool.true_and, cond_true, List.set_set, hc]
theorem El.le {g0 : AHeap} {l p : Nat} {rows : List (List Value)} {e : Nat} {js : List Nat} {g g' : AHeap} {cs : List Value} (E : El g0 l p rows e js g cs) (hle : g.Le g') (w : g'.wf) : El g0 l p rows e js g' cs :=
  ⟨hle.get _ _ E.get, E.hp, w, E.out.trans (.of_le hle)⟩
theorem El.call {g0 : AHeap} {l p : Nat} {rows : List (List Value)} {e : Nat} {js J : List Nat} {g g' : AHeap} {cs : List Value} (E : El g0 l p rows e js g cs) (o : Out J g g') (w : g'.wf) (hl : l ∉ J) (hJ : ∀ z ∈ J, z ∈ js) : El g0 l p rows e js g' cs :=
  ⟨o.get _ _ hl E.get, E.hp, w, E.out.trans (o.widen fun z hz => List.mem_cons_of_mem _ (hJ z hz))⟩
theorem El.ld {g0 : AHeap} {l p : Nat} {rows : List (List Value)} {e : Nat} {js : List Nat} {g : AHeap} {cs : List Value} (E : El g0 l p rows e js g cs) (j m : Nat) (hj : j + m ≤ cs.length) : g.ld l p j m = some ((cs.drop j).take m) := by
  unfold AHeap.ld
  rw [E.get]
  dsimp only
  rw [List.getElem?_set, if_pos rfl, if_pos E.hp]
  dsimp only
  rw [decide_eq_true hj, cond_true]
theorem So.elem {g : AHeap} {s : Sh} {ys : List s.T} {v : Value} {ids : List Nat} (so : So g s ys v ids) (nd : ids.Nodup) (wf : g.wf) {i : Nat} {y : s.T} (hy : ys[i]? = some y) :
    ∃ l r n c rows cs js, v = .slice (some ⟨l, r, some s.cells⟩) n c ∧ i < n ∧ El g l (r + i) rows s.cells js g cs ∧ s.ro g y cs js ∧ l ∉ js ∧ js.Nodup ∧ (∀ z ∈ l :: js, z ∈ ids) ∧
      ∀ g' cs' y', El g l (r + i) rows s.cells js g' cs' → s.ro g' y' cs' js → So g' s (ys.set i y') v ids := by
  obtain ⟨a, n, c, rfl, hs, hl, ⟨rfl, rfl, h0⟩ | ⟨l, r, rows, idss, rfl, hg, hr, hil, rfl, hx⟩⟩ := so
  · have : ys = [] := List.eq_nil_of_length_eq_zero hl
    subst this; simp at hy
  have hi : i < n := by rw [← hl]; exact (List.getElem?_eq_some_iff.1 hy).1
  have hrow : rows[r + i]? = some rows[r + i] := List.getElem?_eq_getElem (by omega)
  have hjs : idss[i]? = some idss[i] := List.getElem?_eq_getElem (by omega)
  have hsub : ∀ (j : Nat) (q : List Nat), idss[j]? = some q → ∀ z ∈ q, z ∈ idss.flatten := fun j q hq z hz => List.mem_flatten.2 ⟨q, List.mem_of_getElem? hq, hz⟩
  rw [List.nodup_cons] at nd
  have ndf := List.pairwise_flatten.1 nd.2
  refine ⟨l, r, n, c, rows, rows[r + i], idss[i], rfl, hi, ⟨by rw [List.set_getElem_self]; exact hg, by omega, wf, .refl⟩, hx i y _ _ hy hrow hjs, fun e => nd.1 (hsub i _ hjs l e), ndf.1 _ (List.mem_of_getElem? hjs), fun z hz => ?_, fun g' cs' y' E ro' => ?_⟩
  · rcases List.mem_cons.1 hz with rfl | hz
    · exact List.mem_cons_self
    · exact List.mem_cons_of_mem _ (hsub i _ hjs z hz)
  · refine ⟨_, n, c, rfl, hs, by rw [List.length_set]; exact hl, .inr ⟨l, r, rows.set (r + i) cs', idss, rfl, E.get, by rw [List.length_set]; exact hr, hil, rfl, fun j x row js h1 h2 h3 => ?_⟩⟩
    by_cases hji : j = i
    · subst hji
      rw [List.getElem?_set, if_pos rfl, if_pos (by omega)] at h1 h2
      rw [hjs] at h3
      cases h1; cases h2; cases h3
      exact ro'
    · rw [List.getElem?_set, if_neg (by omega)] at h1 h2
      refine Sh.ro.out E.out (fun z hz e => ?_) (hx j x row js h1 h2 h3)
      rcases List.mem_cons.1 e with rfl | e
      · exact nd.1 (hsub j _ h3 _ hz)
      · obtain ⟨hj1, ej⟩ := List.getElem?_eq_some_iff.1 h3
        have hp := List.pairwise_iff_getElem.1 ndf.2
        rcases Nat.lt_or_gt_of_ne hji with hlt | hgt
        · exact hp j i hj1 (by omega) hlt z (by rw [ej]; exact hz) z e rfl
        · exact hp i j (by omega) hj1 hgt z e z (by rw [ej]; exact hz) rfl
structure MkI (s : Sh) (h : AHeap) (xs : List s.T) (k : Int) (v : Value) (ids : List Nat) (i : Nat) (ki : Int) (g : AHeap) (ys : List s.T) : Prop where
  hi : i ≤ xs.length
  k0 : 0 ≤ ki
  wf : g.wf
  out : Out ids h g
  so : So g s ys v ids
  rest : ys.drop i = xs.drop i
  eq1 : (mrkL s.mkd xs k).1 = ys.take i ++ (mrkL s.mkd (xs.drop i) ki).1
  eq2 : (mrkL s.mkd xs k).2 = (mrkL s.mkd (xs.drop i) ki).2
theorem MkI.start {s : Sh} {h : AHeap} {xs : List s.T} {k : Int} {v : Value} {ids : List Nat} (hw : h.wf) (hk : 0 ≤ k) (so : So h s xs v ids) : MkI s h xs k v ids 0 k h xs :=
  ⟨Nat.zero_le _, hk, hw, .refl, so, rfl, rfl, rfl⟩
theorem MkI.at {s : Sh} {h : AHeap} {xs : List s.T} {k : Int} {v : Value} {ids : List Nat} {i : Nat} {ki : Int} {g : AHeap} {ys : List s.T} (I : MkI s h xs k v ids i ki g ys) {x : s.T} (hx : xs[i]? = some x) : ys[i]? = some x := by
  have h1 : (ys.drop i)[0]? = (xs.drop i)[0]? := by rw [I.rest]
  rw [List.getElem?_drop, List.getElem?_drop, Nat.add_zero] at h1
  rw [h1, hx]
theorem drop_at {α : Type} {xs : List α} {i : Nat} {x : α} (hx : xs[i]? = some x) : xs.drop i = x :: xs.drop (i + 1) := by
  obtain ⟨hi, e⟩ := List.getElem?_eq_some_iff.1 hx
  rw [List.drop_eq_getElem_cons hi, e]
theorem MkI.bound {s : Sh} {h : AHeap} {xs : List s.T} {k : Int} {v : Value} {ids : List Nat} {i : Nat} {ki : Int} {g : AHeap} {ys : List s.T} (I : MkI s h xs k v ids i ki g ys) {x : s.T} (hx : xs[i]? = some x) {b : Int} (hb : (mrkL s.mkd xs k).2 ≤ b) : (s.mkd x ki).2 ≤ b := by
  have h1 := I.eq2
  rw [drop_at hx] at h1
  simp only [mrkL] at h1
  have := s.mrkL_le (xs.drop (i + 1)) (s.mkd x ki).2
  omega
theorem MkI.step {s : Sh} {h : AHeap} {xs : List s.T} {k : Int} {v : Value} {ids : List Nat} {i : Nat} {ki : Int} {g : AHeap} {ys : List s.T} (I : MkI s h xs k v ids i ki g ys) {x : s.T} (hx : xs[i]? = some x) {g' : AHeap} (wf : g'.wf) (o : Out ids g g') (so : So g' s (ys.set i (s.mkd x ki).1) v ids) :
    MkI s h xs k v ids (i + 1) (s.mkd x ki).2 g' (ys.set i (s.mkd x ki).1) := by
  obtain ⟨hi, e⟩ := List.getElem?_eq_some_iff.1 hx
  have hyi : i < ys.length := (List.getElem?_eq_some_iff.1 (I.at hx)).1
  have h1 := I.eq1
  have h2 := I.eq2
  rw [drop_at hx] at h1 h2
  simp only [mrkL] at h1 h2
  refine ⟨hi, Int.le_trans I.k0 (s.mkd_le x ki), wf, I.out.trans o, so, ?_, ?_, h2⟩
  · rw [List.drop_set, if_pos (by omega)]
    have := I.rest
    rw [drop_at hx, drop_at (I.at hx)] at this
    exact (List.cons.inj this).2
  · rw [h1, List.take_add_one, List.getElem?_set, if_pos rfl, if_pos hyi, List.take_set_of_le (Nat.le_refl _), List.append_assoc]; rfl
structure HdI (s : Sh) (h : AHeap) (xs : List s.T) (k : Int) (i : Nat) (ki : Int) (g : AHeap) : Prop where
  hi : i ≤ xs.length
  k0 : 0 ≤ ki
  wf : g.wf
  le : h.Le g
  rest : (mrkL s.mkd xs k).1.drop i = (mrkL s.mkd (xs.drop i) ki).1
  eq2 : (mrkL s.mkd xs k).2 = (mrkL s.mkd (xs.drop i) ki).2
theorem HdI.start {s : Sh} {h : AHeap} {xs : List s.T} {k : Int} (hw : h.wf) (hk : 0 ≤ k) : HdI s h xs k 0 k h := ⟨Nat.zero_le _, hk, hw, .refl _, rfl, rfl⟩
theorem HdI.at {s : Sh} {h : AHeap} {xs : List s.T} {k : Int} {i : Nat} {ki : Int} {g : AHeap} (I : HdI s h xs k i ki g) {x : s.T} (hx : xs[i]? = some x) : (mrkL s.mkd xs k).1[i]? = some (s.mkd x ki).1 := by
  have h1 : ((mrkL s.mkd xs k).1.drop i)[0]? = ((mrkL s.mkd (xs.drop i) ki).1)[0]? := by rw [I.rest]
  rw [List.getElem?_drop, Nat.add_zero, drop_at hx] at h1
  exact h1
theorem HdI.bound {s : Sh} {h : AHeap} {xs : List s.T} {k : Int} {i : Nat} {ki : Int} {g : AHeap} (I : HdI s h xs k i ki g) {x : s.T} (hx : xs[i]? = some x) {b : Int} (hb : (mrkL s.mkd xs k).2 ≤ b) : (s.mkd x ki).2 ≤ b := by
  have h1 := I.eq2
  rw [drop_at hx] at h1
  simp only [mrkL] at h1
  have := s.mrkL_le (xs.drop (i + 1)) (s.mkd x ki).2
  omega
theorem HdI.step {s : Sh} {h : AHeap} {xs : List s.T} {k : Int} {i : Nat} {ki : Int} {g : AHeap} (I : HdI s h xs k i ki g) {x : s.T} (hx : xs[i]? = some x) {g' : AHeap} (wf : g'.wf) (le : g.Le g') : HdI s h xs k (i + 1) (s.mkd x ki).2 g' := by
  have h1 := I.rest
  have h2 := I.eq2
  rw [drop_at hx] at h1 h2
  simp only [mrkL] at h1 h2
  refine ⟨(List.getElem?_eq_some_iff.1 hx).1, Int.le_trans I.k0 (s.mkd_le x ki), wf, I.le.trans le, ?_, h2⟩
  have h3 : ((mrkL s.mkd xs k).1.drop i).drop 1 = ((s.mkd x ki).1 :: (mrkL s.mkd (xs.drop (i + 1)) (s.mkd x ki).2).1).drop 1 := by rw [h1]
  rw [List.drop_drop] at h3
  exact h3
def Sh.rn (h : AHeap) : (s : Sh) → s.T → List Value → List Nat → Prop
  | .int, x, cs, ids => cs = [.int .i64 x] ∧ ids = []
  | .bool, x, cs, ids => cs = [.bool x] ∧ ids = []
  | .str, x, cs, ids => cs = [.string x] ∧ ids = []
  | .byte, x, cs, ids => cs = [.int .u8 x] ∧ ids = []
  | .pair a b, x, cs, ids => ∃ c1 c2 i1 i2, cs = c1 ++ c2 ∧ ids = i1 ++ i2 ∧ a.rn h x.1 c1 i1 ∧ b.rn h x.2 c2 i2
  | .sl e, xs, cs, ids => ∃ a n c, cs = [.slice a n c] ∧ List.length (α := e.T) xs = n ∧
      ((a = none ∧ n = 0 ∧ c = 0 ∧ ids = []) ∨ ∃ l r rows idss, a = some ⟨l, r, some e.cells⟩ ∧ h.get l = some ⟨rows, e.cells, true⟩ ∧ r + n ≤ rows.length ∧ List.length (α := List Nat) idss = n ∧ ids = l :: idss.flatten ∧
        ∀ (i : Nat) (x : e.T) (row : List Value) (js : List Nat), (show List e.T from xs)[i]? = some x → rows[r + i]? = some row → idss[i]? = some js → e.rn h x row js)
def Sn (h : AHeap) (s : Sh) (xs : List s.T) (v : Value) (ids : List Nat) : Prop :=
  ∃ a n c, v = .slice a n c ∧ xs.length = n ∧
      ((a = none ∧ n = 0 ∧ c = 0 ∧ ids = []) ∨ ∃ l r rows idss, a = some ⟨l, r, some s.cells⟩ ∧ h.get l = some ⟨rows, s.cells, true⟩ ∧ r + n ≤ rows.length ∧ List.length (α := List Nat) idss = n ∧ ids = l :: idss.flatten ∧
        ∀ (i : Nat) (x : s.T) (row : List Value) (js : List Nat), xs[i]? = some x → rows[r + i]? = some row → idss[i]? = some js → s.rn h x row js)
theorem rn_sl {h : AHeap} {s : Sh} {xs : List s.T} {cs : List Value} {ids : List Nat} : Sh.rn h (.sl s) xs cs ids ↔ ∃ v, cs = [v] ∧ Sn h s xs v ids := by
  constructor
  · rintro ⟨a, n, c, rfl, h1⟩
    exact ⟨_, rfl, a, n, c, rfl, h1⟩
  · rintro ⟨_, rfl, a, n, c, rfl, h1⟩
    exact ⟨a, n, c, rfl, h1⟩
theorem Sh.rn.ro {h : AHeap} : ∀ {s : Sh} {x : s.T} {cs : List Value} {ids : List Nat}, s.rn h x cs ids → s.ro h x cs ids := by
  intro s
  induction s with
  | int => intro x cs ids e; exact e
  | bool => intro x cs ids e; exact e
  | str => intro x cs ids e; exact e
  | byte => intro x cs ids e; exact e
  | pair a b iha ihb =>
    rintro x cs ids ⟨c1, c2, i1, i2, e, e2, h1, h2⟩
    exact ⟨c1, c2, i1, i2, e, e2, iha h1, ihb h2⟩
  | sl e ih =>
    rintro xs cs ids ⟨a, n, c, rfl, hn, ⟨rfl, rfl, rfl, rfl⟩ | ⟨l, r, rows, idss, rfl, hg, hr, hl, rfl, hx⟩⟩
    · exact ⟨none, 0, 0, rfl, .inl ⟨rfl, rfl, rfl⟩, hn, .inl ⟨rfl, rfl, rfl⟩⟩
    · exact ⟨_, n, c, rfl, .inr ⟨l, r, rfl⟩, hn, .inr ⟨l, r, rows, idss, rfl, hg, hr, hl, rfl, fun i x row js h1 h2 h3 => ih (hx i x row js h1 h2 h3)⟩⟩
theorem Sn.so {h : AHeap} {s : Sh} {xs : List s.T} {v : Value} {ids : List Nat} (x : Sn h s xs v ids) : So h s xs v ids := by
  obtain ⟨v', e, h1⟩ := ro_sl.1 (Sh.rn.ro (rn_sl.2 ⟨v, rfl, x⟩))
  cases e; exact h1
theorem Sh.rn.keep {h g : AHeap} : ∀ {s : Sh} {x : s.T} {cs : List Value} {ids : List Nat}, (∀ z ∈ ids, ∀ o, h.get z = some o → g.get z = some o) → s.rn h x cs ids → s.rn g x cs ids := by
  intro s
  induction s with
  | int => intro x cs ids _ e; exact e
  | bool => intro x cs ids _ e; exact e
  | str => intro x cs ids _ e; exact e
  | byte => intro x cs ids _ e; exact e
  | pair a b iha ihb =>
    rintro x cs ids hi ⟨c1, c2, i1, i2, e, rfl, h1, h2⟩
    exact ⟨c1, c2, i1, i2, e, rfl, iha (fun l hl => hi l (List.mem_append_left _ hl)) h1, ihb (fun l hl => hi l (List.mem_append_right _ hl)) h2⟩
  | sl e ih =>
    rintro xs cs ids hi ⟨a, n, c, rfl, hn, ⟨rfl, rfl, rfl, rfl⟩ | ⟨l, r, rows, idss, rfl, hg, hr, hl, rfl, hx⟩⟩
    · exact ⟨none, 0, 0, rfl, hn, .inl ⟨rfl, rfl, rfl, rfl⟩⟩
    · refine ⟨_, n, c, rfl, hn, .inr ⟨l, r, rows, idss, rfl, hi l (by simp) _ hg, hr, hl, rfl, fun i x row js h1 h2 h3 => ih (fun q hq => hi q ?_) (hx i x row js h1 h2 h3)⟩⟩
      exact List.mem_cons_of_mem _ (List.mem_flatten.2 ⟨js, List.mem_of_getElem? h3, hq⟩)
theorem Sh.rn.le {h g : AHeap} (le : h.Le g) {s : Sh} {x : s.T} {cs : List Value} {ids : List Nat} (r : s.rn h x cs ids) : s.rn g x cs ids := r.keep (fun z _ o hz => le.get z o hz)
theorem Sn.keep {h g : AHeap} {s : Sh} {xs : List s.T} {v : Value} {ids : List Nat} (x : Sn h s xs v ids) (hi : ∀ z ∈ ids, ∀ o, h.get z = some o → g.get z = some o) : Sn g s xs v ids := by
  obtain ⟨v', e, h1⟩ := rn_sl.1 (Sh.rn.keep hi (rn_sl.2 ⟨v, rfl, x⟩))
  cases e; exact h1
theorem Sn.le {h g : AHeap} (le : h.Le g) {s : Sh} {xs : List s.T} {v : Value} {ids : List Nat} (x : Sn h s xs v ids) : Sn g s xs v ids := x.keep (fun z _ o hz => le.get z o hz)
theorem Sn.nil {h : AHeap} {s : Sh} : Sn h s [] (.slice none 0 0) [] := ⟨none, 0, 0, rfl, rfl, .inl ⟨rfl, rfl, rfl, rfl⟩⟩
structure SoB (s : Sh) (h0 h : AHeap) (a : Option Addr) (n c : Nat) (xs : List s.T) (ids : List Nat) : Prop where
  le : h0.Le h
  wf : h.wf
  wf0 : h0.wf
  len : xs.length = n
  fr : Fresh h0.n h.n ids
  at_ : (a = none ∧ n = 0 ∧ c = 0 ∧ ids = []) ∨ ∃ l rows idss, a = some ⟨l, 0, some s.cells⟩ ∧ h.get l = some ⟨rows, s.cells, true⟩ ∧ rows.length = n ∧ List.length (α := List Nat) idss = n ∧ ids = l :: idss.flatten ∧ (c = 0 ∨ c = n + 1) ∧
    ∀ (i : Nat) (x : s.T) (row : List Value) (js : List Nat), xs[i]? = some x → rows[i]? = some row → idss[i]? = some js → s.rn h x row js
theorem SoB.nil {s : Sh} {h : AHeap} (hw : h.wf) : SoB s h h none 0 0 [] [] := ⟨.refl _, hw, hw, rfl, .nil, .inl ⟨rfl, rfl, rfl, rfl⟩⟩
theorem SoB.sn {s : Sh} {h0 h : AHeap} {a : Option Addr} {n c : Nat} {xs : List s.T} {ids : List Nat} (B : SoB s h0 h a n c xs ids) : Sn h s xs (.slice a n c) ids := by
  obtain ⟨rfl, rfl, rfl, rfl⟩ | ⟨l, rows, idss, rfl, hg, hr, hi, rfl, hc, hx⟩ := B.at_
  · exact ⟨none, 0, 0, rfl, B.len, .inl ⟨rfl, rfl, rfl, rfl⟩⟩
  · exact ⟨_, n, c, rfl, B.len, .inr ⟨l, 0, rows, idss, rfl, hg, by omega, hi, rfl, fun i x row js h1 h2 h3 => hx i x row js h1 (by rw [Nat.zero_add] at h2; exact h2) h3⟩⟩
theorem SoB.step {s : Sh} {h0 h h' : AHeap} {a : Option Addr} {n c : Nat} {xs : List s.T} {ids : List Nat} (B : SoB s h0 h a n c xs ids) (le0 : h0.Le h') (wf : h'.wf) (hn : h.n ≤ h'.n) (hk : ∀ z ∈ ids, ∀ o, h.get z = some o → h'.get z = some o) : SoB s h0 h' a n c xs ids :=
  ⟨le0, wf, B.wf0, B.len, B.fr.widen (Nat.le_refl _) hn, by
    obtain e | ⟨l, rows, idss, e, hg, hr, hi, e2, hc, hx⟩ := B.at_
    · exact .inl e
    · subst e2
      exact .inr ⟨l, rows, idss, e, hk l List.mem_cons_self _ hg, hr, hi, rfl, hc, fun i x row js h1 h2 h3 => (hx i x row js h1 h2 h3).keep (fun z hz => hk z (List.mem_cons_of_mem _ (List.mem_flatten.2 ⟨js, List.mem_of_getElem? h3, hz⟩)))⟩⟩
theorem SoB.grow {s : Sh} {h0 h h' : AHeap} {a : Option Addr} {n c : Nat} {xs : List s.T} {ids : List Nat} (B : SoB s h0 h a n c xs ids) (le : h.Le h') (wf : h'.wf) : SoB s h0 h' a n c xs ids :=
  B.step (B.le.trans le) wf le.n (fun z _ o hz => le.get z o hz)
theorem Fresh.perm3 {a b m : Nat} {l : Nat} {i j : List Nat} (x : Fresh a b (l :: i)) (y : Fresh a b j) (d : ∀ z ∈ i, z ∉ j) (hm : b ≤ m) : Fresh a (m + 1) (m :: (i ++ j)) := by
  refine ⟨List.nodup_cons.2 ⟨fun e => ?_, List.nodup_append.2 ⟨(List.nodup_cons.1 x.nd).2, y.nd, fun p hp q hq e => d p hp (e ▸ hq)⟩⟩, fun z hz => ?_⟩
  · rcases List.mem_append.1 e with e | e
    · have := (x.bd m (List.mem_cons_of_mem _ e)).2; omega
    · have := (y.bd m e).2; omega
  · rcases List.mem_cons.1 hz with rfl | hz
    · have := x.bd l List.mem_cons_self; omega
    · rcases List.mem_append.1 hz with e | e
      · have := x.bd z (List.mem_cons_of_mem _ e); omega
      · have := y.bd z e; omega
theorem SoB.app {s : Sh} {h0 h : AHeap} {a : Option Addr} {n c : Nat} {xs : List s.T} {ids js : List Nat} {x : s.T} {cs : List Value} (B : SoB s h0 h a n c xs ids) (rn : s.rn h x cs js) (fj : Fresh h0.n h.n js) (d : ∀ z ∈ ids, z ∉ js) :
    ∃ l h' ids', h.app (.slice a n c) [cs] s.cells = some (.slice (some ⟨l, 0, some s.cells⟩) (n + 1) 0, h') ∧ SoB s h0 h' (some ⟨l, 0, some s.cells⟩) (n + 1) 0 (xs ++ [x]) ids' ∧ h.n ≤ h'.n ∧ (∀ z ∈ ids', z = h.n ∨ z ∈ ids ∨ z ∈ js) ∧ ∀ z o, z ∉ ids → h.get z = some o → h'.get z = some o := by
  have nb := B.len
  have sz : (xs ++ [x]).length = n + 1 := by rw [List.length_append, nb]; rfl
  obtain ⟨rfl, rfl, rfl, rfl⟩ | ⟨l, rows, idss, rfl, hg, hr, hi, rfl, hc, hx⟩ := B.at_
  · have e0 : xs = [] := List.eq_nil_of_length_eq_zero nb
    subst e0
    have lp := AHeap.Le.push B.wf ⟨[cs], s.cells, true⟩
    refine ⟨h.n, h.push ⟨[cs], s.cells, true⟩, h.n :: [js].flatten, rfl, ⟨B.le.trans lp, B.wf.push _, B.wf0, sz, ?_, .inr ⟨h.n, [cs], [js], rfl, AHeap.get_push_eq, rfl, rfl, rfl, .inl rfl, ?_⟩⟩, lp.n, fun z hz => ?_, fun z o _ hz => lp.get z o hz⟩
    · refine ⟨List.nodup_cons.2 ⟨fun e => ?_, by simpa using fj.nd⟩, fun z hz => ?_⟩
      · have := (fj.bd h.n (by simpa using e)).2; omega
      · show h0.n ≤ z ∧ z < h.n + 1
        rcases List.mem_cons.1 hz with rfl | hz
        · have := B.le.n; omega
        · have := fj.bd z (by simpa using hz); omega
    · intro i y row q h1 h2 h3
      have : i = 0 := by have := (List.getElem?_eq_some_iff.1 h2).1; simp at this; omega
      subst this
      simp at h1 h2 h3
      subst h1; subst h2; subst h3
      exact rn.le lp
    · rcases List.mem_cons.1 hz with rfl | hz
      · exact .inl rfl
      · exact .inr (.inr (by simpa using hz))
  · have hro : h.rowsOf (.slice (some ⟨l, 0, some s.cells⟩) n c) = some rows := by rw [get_rowsOf hg (by omega), List.drop_zero, List.take_of_length_le (by omega)]
    have ndl := List.nodup_cons.1 B.fr.nd
    have hlj : l ∉ js := d l List.mem_cons_self
    have hlt : l < h.n := B.wf.lt hg
    have h0l : h0.n ≤ l := (B.fr.bd l List.mem_cons_self).1
    have key : ∀ (g : AHeap), g.wf → h0.Le g → g.n = h.n → (∀ z o, z ≠ l → h.get z = some o → g.get z = some o) → SoB s h0 (g.push ⟨rows ++ [cs], s.cells, true⟩) (some ⟨h.n, 0, some s.cells⟩) (n + 1) 0 (xs ++ [x]) (h.n :: (idss ++ [js]).flatten) ∧ ∀ z o, z ∉ l :: idss.flatten → h.get z = some o → (g.push ⟨rows ++ [cs], s.cells, true⟩).get z = some o := by
      intro g gw gl gn keep
      have lp := AHeap.Le.push gw ⟨rows ++ [cs], s.cells, true⟩
      have k2 : ∀ z o, z ≠ l → h.get z = some o → (g.push ⟨rows ++ [cs], s.cells, true⟩).get z = some o := fun z o hz ho => lp.get z o (keep z o hz ho)
      refine ⟨⟨gl.trans lp, gw.push _, B.wf0, sz, ?_, .inr ⟨h.n, rows ++ [cs], idss ++ [js], rfl, by rw [← gn]; exact AHeap.get_push_eq, by simp [hr], by simp [hi], rfl, .inl rfl, ?_⟩⟩, fun z o hz ho => k2 z o (fun e => hz (by simp [e])) ho⟩
      · show Fresh h0.n (g.n + 1) _
        rw [gn, List.flatten_append, List.flatten_singleton]
        exact B.fr.perm3 fj (fun z hz => d z (List.mem_cons_of_mem _ hz)) (Nat.le_refl _)
      · intro i y row q h1 h2 h3
        rcases getElem?_snoc h1 with ⟨hi1, h1⟩ | ⟨hi1, rfl⟩
        · rw [List.getElem?_append_left (by omega)] at h2 h3
          refine (hx i y row q h1 h2 h3).keep (fun z hz o => k2 z o (fun e => ?_))
          subst e
          exact ndl.1 (List.mem_flatten.2 ⟨q, List.mem_of_getElem? h3, hz⟩)
        · rw [List.getElem?_append_right (by omega), show i - rows.length = 0 by omega] at h2
          rw [List.getElem?_append_right (by omega), show i - idss.length = 0 by omega] at h3
          simp at h2 h3
          subst h2; subst h3
          exact rn.keep (fun z hz o => k2 z o (fun e => hlj (e ▸ hz)))
    have mem : ∀ z ∈ h.n :: (idss ++ [js]).flatten, z = h.n ∨ z ∈ l :: idss.flatten ∨ z ∈ js := fun z hz => by
      rw [List.flatten_append, List.flatten_singleton] at hz
      rcases List.mem_cons.1 hz with rfl | hz
      · exact .inl rfl
      · rcases List.mem_append.1 hz with e | e
        · exact .inr (.inl (List.mem_cons_of_mem _ e))
        · exact .inr (.inr e)
    unfold AHeap.app
    dsimp only
    rw [hro]
    dsimp only
    rw [beq_self_eq_true, cond_true]
    cases hcc : (c != 0 && decide (c ≤ n + [cs].length)) with
    | true =>
      rw [cond_true]
      obtain ⟨k1, k2⟩ := key h B.wf B.le rfl (fun z o _ hz => hz)
      exact ⟨h.n, _, _, rfl, k1, Nat.le_succ _, mem, k2⟩
    | false =>
      rw [cond_false, hg]
      dsimp only
      have hno : (c != 0 && decide (0 + n + [cs].length ≤ rows.length)) = false := by
        rw [Bool.and_eq_false_iff]; right; rw [decide_eq_false_iff_not, List.length_singleton]; omega
      rw [cond_true, hno, cond_false]
      obtain ⟨k1, k2⟩ := key (h.put l none) (B.wf.put hlt _) (B.le.put (B.wf0 l h0l) none) rfl (fun z o hz ho => by rw [AHeap.get_put_ne hz]; exact ho)
      exact ⟨h.n, _, _, rfl, k1, Nat.le_succ _, mem, k2⟩
end Go.Dat
end
section
namespace Go.Dat
open Go.Abs
def pNum (t : ByteArray) (a : Nat) : Option (Int × Nat) := (gn t a 0 0).map fun p => (unfoldN p.1, p.2)
def pWord (t : ByteArray) (a : Nat) : Option (ByteArray × Nat) := match pNum t a with
  | none => none
  | some (n, e) => if 0 ≤ n ∧ n ≤ 20000 ∧ n ≤ (t.size : Int) - e then some (t.extract e (e + n.toNat), e + n.toNat) else none
def pMany (k : Int) (t : ByteArray) (a : Nat) : Option (Nat × Nat) := match pNum t a with
  | none => none
  | some (n, e) => if 0 ≤ n ∧ n ≤ k then some (n.toNat, e) else none
structure Rd {α : Type} (p : Option (α × Nat)) (t : ByteArray) (b : Bool) (x : α) (a' : Nat) (b' : Bool) : Prop where
  bad : b = true → b' = true
  ok : b = false → b' = false → p = some (x, a')
  no : b = false → b' = true → p = none
  le : a' ≤ t.size
end Go.Dat
namespace Go.Proofs.Ytanienlcebkijaa
open Go.Abs Go.Dat
set_option maxRecDepth 100000
set_option maxHeartbeats 8000000
def o3 (a b c : Value) : AObj := ⟨[[a, b, c]], 3, true⟩
end Go.Proofs.Ytanienlcebkijaa
end
section
namespace Go.Dat
open Go.Abs
structure Kp (J : List Nat) (g g' : AHeap) : Prop where
  n : g.n ≤ g'.n
  get : ∀ z o, z ∉ J → g.get z = some o → g'.get z = some o
theorem Kp.refl {J : List Nat} {g : AHeap} : Kp J g g := ⟨Nat.le_refl _, fun _ _ _ h => h⟩
theorem Kp.trans {J : List Nat} {a b c : AHeap} (x : Kp J a b) (y : Kp J b c) : Kp J a c := ⟨Nat.le_trans x.n y.n, fun z o hz h => y.get z o hz (x.get z o hz h)⟩
theorem Kp.widen {J K : List Nat} {a b : AHeap} (x : Kp J a b) (h : ∀ z ∈ J, z ∈ K) : Kp K a b := ⟨x.n, fun z o hz => x.get z o (fun e => hz (h z e))⟩
theorem _root_.Go.Dat.Out.kp {J : List Nat} {a b : AHeap} (x : Out J a b) : Kp J a b := ⟨x.shp.n, x.get⟩
theorem Kp.of_le {J : List Nat} {a b : AHeap} (x : a.Le b) : Kp J a b := ⟨x.n, fun z o _ h => x.get z o h⟩
theorem Kp.drop {J K : List Nat} {a b c : AHeap} (w : a.wf) (x : Kp J a b) (y : Kp K b c) (h : ∀ z ∈ K, z ∈ J ∨ a.n ≤ z) : Kp J a c :=
  ⟨Nat.le_trans x.n y.n, fun z o hz ho => y.get z o (fun e => by
    rcases h z e with h1 | h1
    · exact hz h1
    · have := w.lt ho; omega) (x.get z o hz ho)⟩
theorem Kp.le {J : List Nat} {a b : AHeap} (w : a.wf) (x : Kp J a b) (h : ∀ z ∈ J, a.n ≤ z) : a.Le b := ⟨x.n, fun z o ho => x.get z o (fun e => by have := h z e; have := w.lt ho; omega) ho⟩
def E0 (n : Nat) : AHeap := ⟨n, fun _ => none⟩
theorem E0.le {n : Nat} {h : AHeap} (x : n ≤ h.n) : (E0 n).Le h := ⟨x, fun _ _ e => by cases e⟩
theorem E0.wf {n : Nat} : (E0 n).wf := fun _ _ => rfl
theorem SoB.new {s : Sh} {n : Nat} {h : AHeap} (hw : h.wf) (hn : n ≤ h.n) : SoB s (E0 n) h none 0 0 [] [] := ⟨E0.le hn, hw, E0.wf, rfl, .nil, .inl ⟨rfl, rfl, rfl, rfl⟩⟩
theorem SoB.kp {s : Sh} {n0 : Nat} {h h' : AHeap} {a : Option Addr} {n c : Nat} {xs : List s.T} {ids J : List Nat} (B : SoB s (E0 n0) h a n c xs ids) (k : Kp J h h') (wf : h'.wf) (hJ : ∀ z ∈ ids, z ∉ J) : SoB s (E0 n0) h' a n c xs ids :=
  B.step (E0.le (Nat.le_trans B.le.n k.n)) wf k.n (fun z hz o => k.get z o (hJ z hz))
theorem Sn.kp {s : Sh} {h h' : AHeap} {xs : List s.T} {v : Value} {ids J : List Nat} (x : Sn h s xs v ids) (k : Kp J h h') (hJ : ∀ z ∈ ids, z ∉ J) : Sn h' s xs v ids := x.keep (fun z hz o => k.get z o (hJ z hz))
theorem SoB.app' {s : Sh} {n0 : Nat} {h : AHeap} {a : Option Addr} {n c : Nat} {xs : List s.T} {ids js : List Nat} {x : s.T} {cs : List Value} (B : SoB s (E0 n0) h a n c xs ids) (rn : s.rn h x cs js) (fj : Fresh n0 h.n js) (d : ∀ z ∈ ids, z ∉ js) :
    ∃ l h' ids', h.app (.slice a n c) [cs] s.cells = some (.slice (some ⟨l, 0, some s.cells⟩) (n + 1) 0, h') ∧ SoB s (E0 n0) h' (some ⟨l, 0, some s.cells⟩) (n + 1) 0 (xs ++ [x]) ids' ∧ Kp ids h h' ∧ h'.wf ∧ ∀ z ∈ ids', z = h.n ∨ z ∈ ids ∨ z ∈ js := by
  obtain ⟨l, h', ids', e, B', hn, hm, hk⟩ := B.app rn fj d
  exact ⟨l, h', ids', e, B', ⟨hn, hk⟩, B'.wf, hm⟩
theorem Rd.bind {α β : Type} {p : Option (α × Nat)} {q : α → Nat → Option (β × Nat)} {t : ByteArray} {b b1 b2 : Bool} {x : α} {y : β} {a1 a2 : Nat} (h1 : Rd p t b x a1 b1) (h2 : Rd (q x a1) t b1 y a2 b2) : Rd (p.bind fun z => q z.1 z.2) t b y a2 b2 := by
  refine ⟨fun e => h2.bad (h1.bad e), fun e1 e2 => ?_, fun e1 e2 => ?_, h2.le⟩
  · have hb : b1 = false := by
      cases hb : b1 with
      | false => rfl
      | true => rw [h2.bad hb] at e2; cases e2
    rw [h1.ok e1 hb]; exact h2.ok hb e2
  · cases hb : b1 with
    | true => rw [h1.no e1 hb]; rfl
    | false => rw [h1.ok e1 hb]; exact h2.no hb e2
theorem Rd.pure {α : Type} {t : ByteArray} {b : Bool} {x : α} {a : Nat} (ha : a ≤ t.size) : Rd (some (x, a)) t b x a b := ⟨fun e => e, fun _ _ => rfl, fun e1 e2 => absurd (e1.symm.trans e2) (by decide), ha⟩
def pRep {α : Type} (p : Nat → Option (α × Nat)) : Nat → Nat → List α → Option (List α × Nat)
  | 0, a, xs => some (xs, a)
  | n + 1, a, xs => (p a).bind fun z => pRep p n z.2 (xs ++ [z.1])
structure RepI {α : Type} (p : Nat → Option (α × Nat)) (t : ByteArray) (N a0 : Nat) (b0 : Bool) (n : Nat) (xs : List α) (a : Nat) (b : Bool) : Prop where
  bad : b0 = true → b = true
  ok : b0 = false → b = false → pRep p N a0 [] = pRep p n a xs
  no : b0 = false → b = true → pRep p N a0 [] = none
  le : a ≤ t.size
  len : xs.length + n = N
theorem RepI.start {α : Type} {p : Nat → Option (α × Nat)} {t : ByteArray} {N a0 : Nat} {b0 : Bool} (ha : a0 ≤ t.size) : RepI p t N a0 b0 N [] a0 b0 := ⟨fun e => e, fun _ _ => rfl, fun e1 e2 => absurd (e1.symm.trans e2) (by decide), ha, by simp⟩
theorem RepI.step {α : Type} {p : Nat → Option (α × Nat)} {t : ByteArray} {N a0 : Nat} {b0 : Bool} {n : Nat} {xs : List α} {a a' : Nat} {b' : Bool} {x : α} (I : RepI p t N a0 b0 (n + 1) xs a false) (h : Rd (p a) t false x a' b') : RepI p t N a0 b0 n (xs ++ [x]) a' b' := by
  refine ⟨fun e => absurd (I.bad e) (by decide), fun e1 e2 => ?_, fun e1 e2 => ?_, h.le, by have := I.len; simp; omega⟩
  · rw [I.ok e1 rfl, pRep, h.ok rfl e2]; rfl
  · rw [I.ok e1 rfl, pRep, h.no rfl e2]; rfl
def pGrp (t : ByteArray) (a : Nat) : Option (groupSh.T × Nat) := (pWord t a).bind fun z => (pNum t z.2).bind fun y => some ((z.1, y.1), y.2)
def pTop (t : ByteArray) (a : Nat) : Option (topicSh.T × Nat) := (pWord t a).bind fun z1 => (pNum t z1.2).bind fun z2 => (pMany 20 t z2.2).bind fun z3 => (pRep (pWord t) z3.1 z3.2 []).bind fun z4 => (pMany 4 t z4.2).bind fun z5 => (pRep (pGrp t) z5.1 z5.2 []).bind fun z6 => some ((z1.1, z2.1, z4.1, z6.1), z6.2)
theorem Rd.grp {t : ByteArray} {a a1 a2 : Nat} {b b1 b2 : Bool} {s : ByteArray} {n : Int} (R1 : Rd (pWord t a) t b s a1 b1) (R2 : Rd (pNum t a1) t b1 n a2 b2) : Rd (pGrp t a) t b (s, n) a2 b2 :=
  R1.bind (q := fun s a1 => (pNum t a1).bind fun y => some ((s, y.1), y.2)) (R2.bind (q := fun n a2 => some ((s, n), a2)) (Rd.pure R2.le))
theorem Rd.top {t : ByteArray} {a a1 a2 a3 a4 a5 a6 : Nat} {b b1 b2 b3 b4 b5 b6 : Bool} {nm : ByteArray} {bs : Int} {N3 N5 : Nat} {hs : List Sh.str.T} {gs : List groupSh.T} (R1 : Rd (pWord t a) t b nm a1 b1) (R2 : Rd (pNum t a1) t b1 bs a2 b2) (R3 : Rd (pMany 20 t a2) t b2 N3 a3 b3) (R4 : Rd (pRep (pWord t) N3 a3 []) t b3 hs a4 b4) (R5 : Rd (pMany 4 t a4) t b4 N5 a5 b5) (R6 : Rd (pRep (pGrp t) N5 a5 []) t b5 gs a6 b6) : Rd (pTop t a) t b (nm, bs, hs, gs) a6 b6 :=
  R1.bind (q := fun x1 e1 => (pNum t e1).bind fun z2 => (pMany 20 t z2.2).bind fun z3 => (pRep (pWord t) z3.1 z3.2 []).bind fun z4 => (pMany 4 t z4.2).bind fun z5 => (pRep (pGrp t) z5.1 z5.2 []).bind fun z6 => some ((x1, z2.1, z4.1, z6.1), z6.2))
    (R2.bind (q := fun x2 e2 => (pMany 20 t e2).bind fun z3 => (pRep (pWord t) z3.1 z3.2 []).bind fun z4 => (pMany 4 t z4.2).bind fun z5 => (pRep (pGrp t) z5.1 z5.2 []).bind fun z6 => some ((nm, x2, z4.1, z6.1), z6.2))
    (R3.bind (q := fun x3 e3 => (pRep (pWord t) x3 e3 []).bind fun z4 => (pMany 4 t z4.2).bind fun z5 => (pRep (pGrp t) z5.1 z5.2 []).bind fun z6 => some ((nm, bs, z4.1, z6.1), z6.2))
    (R4.bind (q := fun x4 e4 => (pMany 4 t e4).bind fun z5 => (pRep (pGrp t) z5.1 z5.2 []).bind fun z6 => some ((nm, bs, x4, z6.1), z6.2))
    (R5.bind (q := fun x5 e5 => (pRep (pGrp t) x5 e5 []).bind fun z6 => some ((nm, bs, hs, z6.1), z6.2))
    (R6.bind (q := fun x6 e6 => some ((nm, bs, hs, x6), e6)) (Rd.pure R6.le))))))
end Go.Dat
end
section
namespace Go.Proofs.Ytanienlcebkijaa
open Go.Abs Go.Dat
def Srz (h : AHeap) (l : Nat) : Prop := ∃ bs a n c, Src h l bs a n c ∧ ∀ l2 r, a = some ⟨l2, r, some 1⟩ → l2 ≠ l
theorem Srz.wf {h : AHeap} {l : Nat} (s : Srz h l) : h.wf := by obtain ⟨_, _, _, _, s, _⟩ := s; exact s.wf
theorem Srz.lt {h : AHeap} {l : Nat} (s : Srz h l) : l < h.n := by
  obtain ⟨_, _, _, _, s, _⟩ := s
  obtain ⟨_, _, _, hg, _⟩ := s.obj
  exact s.wf.lt hg
theorem Srz.le {h h' : AHeap} {l : Nat} (s : Srz h l) (le : h.Le h') (wf : h'.wf) : Srz h' l := by
  obtain ⟨bs, a, n, c, s, hne⟩ := s
  obtain ⟨x, y, z, hg, h1⟩ := s.obj
  exact ⟨bs, a, n, c, ⟨wf, s.bytes.mono le, s.ok, x, y, z, le.get _ _ hg, h1⟩, hne⟩
theorem sl_lt {h : AHeap} (hw : h.wf) {s : Sh} {xs : List s.T} {a : Option Addr} {n c : Nat} (hx : Sl h s xs (.slice a n c)) : ∀ l2 r, a = some ⟨l2, r, some s.cells⟩ → l2 < h.n := by
  obtain ⟨a', n', c', rows, e, h1, h2, h3, h4⟩ := hx
  cases e
  rintro l2 r rfl
  unfold AHeap.rowsOf at h2
  dsimp only at h2
  split at h2
  · rename_i o ho
    exact hw.lt ho
  · cases h2
theorem Srz.ne {h : AHeap} {l : Nat} (s : Srz h l) {bs : List Sh.byte.T} {a : Option Addr} {n c : Nat} (x : Src h l bs a n c) : ∀ l2 r, a = some ⟨l2, r, some 1⟩ → l2 ≠ l := by
  obtain ⟨_, a', n', c', s, hne⟩ := s
  obtain ⟨_, _, _, h1, _⟩ := s.obj
  obtain ⟨_, _, _, h2, _⟩ := x.obj
  have e := h1.symm.trans h2
  simp only [srcO, Option.some.injEq, AObj.mk.injEq, List.cons.injEq, Value.slice.injEq, and_true, true_and] at e
  rw [← e.1.1]; exact hne
structure Dr (l : Nat) (h h' : AHeap) : Prop where
  s0 : Srz h l
  kp : Kp [l] h h'
  wf : h'.wf
  obj : ∀ bs a n c, Src h l bs a n c → ∃ at_ mix size : Int, h'.get l = some (srcO a n c at_ mix size) ∧ (0 ≤ at_ ∧ at_ ≤ n) ∧ (0 ≤ mix ∧ mix < 18446744073709551616) ∧ (0 ≤ size ∧ size ≤ 12)
theorem kp_but {l : Nat} {h h' : AHeap} (k : Kp [l] h h') : But l h h' := ⟨k.n, fun x o hx ho => k.get x o (by simpa using hx) ho⟩
theorem Dr.tr {l : Nat} {h h' : AHeap} (d : Dr l h h') {bs : List Sh.byte.T} {a : Option Addr} {n c : Nat} (x : Src h l bs a n c) : Src h' l bs a n c :=
  ⟨d.wf, (kp_but d.kp).sl x.bytes (fun _ _ _ hr => hr) (d.s0.ne x), x.ok, d.obj _ _ _ _ x⟩
theorem Dr.src {l : Nat} {h h' : AHeap} (d : Dr l h h') : Srz h' l := by
  obtain ⟨bs, a, n, c, s, hne⟩ := d.s0
  exact ⟨bs, a, n, c, d.tr s, hne⟩
theorem Dr.trans {l : Nat} {a b c : AHeap} (x : Dr l a b) (y : Dr l b c) : Dr l a c := ⟨x.s0, x.kp.trans y.kp, y.wf, fun bs p n q s => y.obj bs p n q (x.tr s)⟩
theorem Dr.refl {l : Nat} {a : AHeap} (s : Srz a l) : Dr l a a := ⟨s, .refl, s.wf, fun _ _ _ _ x => x.obj⟩
theorem Dr.step {l : Nat} {a b c : AHeap} (x : Dr l a b) {J : List Nat} (k : Kp J b c) (wf : c.wf) (hJ : ∀ z ∈ J, a.n ≤ z) : Dr l a c :=
  ⟨x.s0, Kp.drop x.s0.wf x.kp k (fun z hz => .inr (hJ z hz)), wf, fun bs p n q s => by
    obtain ⟨u, v, w, h1, h2⟩ := x.obj bs p n q s
    exact ⟨u, v, w, k.get l _ (fun e => by have := hJ l e; have := x.s0.lt; omega) h1, h2⟩⟩
theorem Dr.le {l : Nat} {a b c : AHeap} (x : Dr l a b) (le : b.Le c) (wf : c.wf) : Dr l a c := x.step (J := []) (.of_le le) wf (by simp)
theorem Dr.of {l : Nat} {a c : AHeap} (s : Srz a l) (le : a.Le c) (wf : c.wf) : Dr l a c := (Dr.refl s).le le wf
theorem Dr.of_drawn {h h' : AHeap} {l : Nat} {bs : List Sh.byte.T} {a : Option Addr} {n c : Nat} (s : Src h l bs a n c) (d : Drawn h h' l bs a n c) (hne : ∀ l2 r, a = some ⟨l2, r, some 1⟩ → l2 ≠ l) : Dr l h h' :=
  ⟨⟨bs, a, n, c, s, hne⟩, ⟨d.but_n, fun z o hz ho => d.but z o (fun e => hz (by simp [e])) ho⟩, d.src.wf, fun bs' a' n' c' s' => by
    obtain ⟨_, _, _, h1, _⟩ := s.obj
    obtain ⟨_, _, _, h2, _⟩ := s'.obj
    have e := h1.symm.trans h2
    simp only [srcO, Option.some.injEq, AObj.mk.injEq, List.cons.injEq, Value.slice.injEq, and_true, true_and] at e
    obtain ⟨⟨rfl, rfl, rfl⟩, _⟩ := e
    exact d.src.obj⟩
theorem Dr.top {h h1 g : AHeap} {l : Nat} (hw : h.wf) (le : h.Le h1) (hl : h.n ≤ l) (d : Dr l h1 g) : h.Le g :=
  Kp.le hw ((Kp.of_le (J := [l]) le).trans d.kp) (fun z hz => by simp only [List.mem_cons, List.not_mem_nil, or_false] at hz; omega)
theorem Dr.sob {l : Nat} {h h' : AHeap} (d : Dr l h h') {s : Sh} {n0 : Nat} {a : Option Addr} {n c : Nat} {xs : List s.T} {ids : List Nat} (B : SoB s (E0 n0) h a n c xs ids) (hl : l ∉ ids) : SoB s (E0 n0) h' a n c xs ids :=
  B.kp d.kp d.wf (fun z hz e => by simp only [List.mem_cons, List.not_mem_nil, or_false] at e; exact hl (e ▸ hz))
theorem Dr.sn {l : Nat} {h h' : AHeap} (d : Dr l h h') {s : Sh} {xs : List s.T} {v : Value} {ids : List Nat} (B : Sn h s xs v ids) (hl : l ∉ ids) : Sn h' s xs v ids :=
  B.kp d.kp (fun z hz e => by simp only [List.mem_cons, List.not_mem_nil, or_false] at e; exact hl (e ▸ hz))
set_option maxRecDepth 100000
set_option maxHeartbeats 8000000
theorem dr_n (h : AHeap) (l : Nat) (s : Srz h l) (most : Int) (hm : -9223372036854775808 ≤ most ∧ most ≤ 9223372036854775807) :
    ∃ (r : Int) (h' : AHeap), ACall Try.prog 69 [.pointer (some ⟨l, 0, some 0⟩), .int .i64 most] h (.int .i64 r) h' ∧ 0 ≤ r ∧ (most ≤ 1 → r = 0) ∧ (1 < most → r < most) ∧ Dr l h h' := by
  obtain ⟨bs, a, n, c, s, hne⟩ := s
  obtain ⟨r, h', hA, h1, h2, h3, d⟩ := draw_n h l bs a n c s hne most hm
  exact ⟨r, h', hA, h1, h2, h3, .of_drawn s d hne⟩
theorem dr_one (h : AHeap) (l : Nat) (s : Srz h l) (of : Int) (hm : -9223372036854775808 ≤ of ∧ of ≤ 9223372036854775807) :
    ∃ (r : Bool) (h' : AHeap), ACall Try.prog 66 [.pointer (some ⟨l, 0, some 0⟩), .int .i64 of] h (.bool r) h' ∧ Dr l h h' := by
  obtain ⟨bs, a, n, c, s, hne⟩ := s
  obtain ⟨r, h', hA, d⟩ := draw_one h l bs a n c s hne of hm
  exact ⟨r, h', hA, .of_drawn s d hne⟩
theorem dr_new (h : AHeap) (hw : h.wf) (a : Option Addr) (n c : Nat) (bytes : List Sh.byte.T) (hx : Sl h Sh.byte bytes (.slice a n c)) (ok : (Sh.sl Sh.byte).ok bytes) :
    ∃ h', ACall Try.prog 65 [.slice a n c] h (.pointer (some ⟨h.n, 0, some 0⟩)) h' ∧ h.Le h' ∧ h'.wf ∧ Srz h' h.n := by
  obtain ⟨_, h', hA, le, rfl, s⟩ := l01Source_spec h hw a n c bytes hx ok
  exact ⟨h', hA, le, s.wf, _, _, _, _, s, fun l2 r e => by have := sl_lt hw hx l2 r e; omega⟩
end Go.Proofs.Ytanienlcebkijaa
end
section
namespace Go.Dat
open Go.Abs
def AscAt {α : Type} (k : α → Int) (P : α → Prop) (xs : List α) (i : Nat) : Prop := ∃ x, xs[i]? = some x ∧ P x ∧ ∀ j, i = j + 1 → ∃ y, xs[j]? = some y ∧ k y < k x
def Asc {α : Type} (k : α → Int) (P : α → Prop) (xs : List α) : Prop := ∀ i, i < xs.length → AscAt k P xs i
theorem AscAt.mk0 {α : Type} {k : α → Int} {P : α → Prop} {xs : List α} {i : Nat} {x : α} (e : xs[i]? = some x) (h1 : P x) (hi0 : i = 0) : AscAt k P xs i := ⟨x, e, h1, fun j hj => by omega⟩
theorem AscAt.out {α : Type} {k : α → Int} {P : α → Prop} {xs : List α} {i : Nat} {x : α} (H : AscAt k P xs i) (e : xs[i]? = some x) : P x ∧ ∀ y, 0 < i → xs[i - 1]? = some y → k y < k x := by
  obtain ⟨x', e', h1, h2⟩ := H
  rw [e] at e'
  cases e'
  refine ⟨h1, fun y hp e2 => ?_⟩
  obtain ⟨y', e3, h4⟩ := h2 (i - 1) (by omega)
  rw [e2] at e3
  cases e3
  exact h4
theorem Asc.mem {α : Type} {k : α → Int} {P : α → Prop} {xs : List α} (H : Asc k P xs) {x : α} (hx : x ∈ xs) : P x := by
  obtain ⟨i, hi⟩ := List.mem_iff_getElem?.1 hx
  exact ((H i (List.getElem?_eq_some_iff.1 hi).1).out hi).1
theorem Asc.low {α : Type} {k : α → Int} {P : α → Prop} {xs : List α} (H : Asc k P xs) {lo : Int} (hP : ∀ x, P x → lo ≤ k x) : ∀ (i : Nat) (x : α), xs[i]? = some x → lo + i ≤ k x
  | 0, x, e => by have := hP x ((H 0 (List.getElem?_eq_some_iff.1 e).1).out e).1; omega
  | i + 1, x, e => by
    have hi := (List.getElem?_eq_some_iff.1 e).1
    obtain ⟨y, hy⟩ : ∃ y, xs[i]? = some y := ⟨_, List.getElem?_eq_getElem (by omega)⟩
    have h1 := Asc.low H hP i y hy
    have h2 := ((H (i + 1) hi).out e).2 y (by omega) hy
    omega
theorem Asc.len {α : Type} {k : α → Int} {P : α → Prop} {xs : List α} (H : Asc k P xs) {lo hi : Int} (hP : ∀ x, P x → InR lo hi (k x)) (hb : lo ≤ hi + 1) : (xs.length : Int) ≤ hi - lo + 1 := by
  cases hl : xs.length with
  | zero => omega
  | succ n =>
    obtain ⟨x, hx⟩ : ∃ x, xs[n]? = some x := ⟨_, List.getElem?_eq_getElem (by omega)⟩
    have h1 := H.low (fun x h => (hP x h).1) n x hx
    have h2 := (hP x (H.mem (List.mem_of_getElem? hx))).2
    omega
theorem Asc.nil {α : Type} {k : α → Int} {P : α → Prop} : Asc k P [] := fun _ hi => absurd hi (Nat.not_lt_zero _)
theorem Asc.one {α : Type} {k : α → Int} {P : α → Prop} {x : α} : Asc k P [x] ↔ P x := ⟨fun H => H.mem (List.mem_singleton.2 rfl), fun h i hi => by
  obtain rfl : i = 0 := by simp at hi; omega
  exact .mk0 rfl h rfl⟩
def QuoOk (l : List Sh.int.T) : Prop := Asc (fun x : Int => x) (InR 0 3) l ∧ 3 ≤ l.length
def PrfOk (v q : Int) (op : ByteArray) (l : List Sh.int.T) : Prop := InR 0 7 v ∧ InR 1 6 q ∧ op.size ≤ 120 ∧ QuoOk l
def ChgOk (f v : Int) (ps : List proofSh.T) : Prop := InR 0 3 f ∧ InR 1 7 v ∧ Asc (fun p : proofSh.T => p.2.1) (fun p : proofSh.T => PrfOk p.1 p.2.1 p.2.2.1 p.2.2.2 ∧ (show Int from p.1) < v) ps
def ChgsOk (v : Int) (cs : List changeSh.T) : Prop := Asc (fun c : changeSh.T => c.1) (fun c : changeSh.T => ChgOk c.1 c.2.1 c.2.2 ∧ (show Int from c.2.1) = v) cs
theorem QuoOk.len {l : List Sh.int.T} (H : QuoOk l) : l.length ≤ 4 := by
  have := H.1.len (lo := 0) (hi := 3) (fun x h => h) (by omega)
  omega
theorem ChgOk.len {f v : Int} {ps : List proofSh.T} (H : ChgOk f v ps) : ps.length ≤ 6 := by
  have := Asc.len H.2.2 (lo := 1) (hi := 6) (fun x h => h.1.2.1) (by omega)
  omega
theorem ChgsOk.len {v : Int} {cs : List changeSh.T} (H : ChgsOk v cs) : cs.length ≤ 4 := by
  have := Asc.len H (lo := 0) (hi := 3) (fun x h => h.1.1) (by omega)
  omega
theorem inF {lo hi n : Int} (h : (decide (lo ≤ n) && decide (n ≤ hi)) = false) : ¬ InR lo hi n := fun H => by
  obtain ⟨h1, h2⟩ := H
  simp [h1, h2] at h
end Go.Dat
namespace Go.Proofs.Ytanienlcebkijaa
open Go.Abs Go.Dat
set_option maxRecDepth 100000
set_option maxHeartbeats 8000000
end Go.Proofs.Ytanienlcebkijaa
end
section
namespace Go.Dat
open Go.Abs
end Go.Dat
namespace Go.Proofs.Ytanienlcebkijaa
open Go.Abs Go.Dat
set_option maxRecDepth 100000
set_option maxHeartbeats 8000000
end Go.Proofs.Ytanienlcebkijaa
end
section
namespace Go.Abs
end Go.Abs
end
section
namespace Go.Dat
open Go.Abs
def Sh.flat : Sh → Bool
  | .pair a b => a.flat && b.flat
  | .sl _ => false
  | _ => true
theorem Sh.flat_rn {h g : AHeap} : ∀ {s : Sh}, s.flat = true → ∀ {x : s.T} {cs : List Value}, s.rd h x cs → s.rn g x cs [] := by
  intro s
  induction s with
  | int => intro _ x cs e; exact ⟨e, rfl⟩
  | bool => intro _ x cs e; exact ⟨e, rfl⟩
  | str => intro _ x cs e; exact ⟨e, rfl⟩
  | byte => intro _ x cs e; exact ⟨e, rfl⟩
  | pair a b iha ihb =>
    rintro hf x cs ⟨c1, c2, rfl, h1, h2⟩
    have hf' : a.flat = true ∧ b.flat = true := by simpa [Sh.flat] using hf
    exact ⟨c1, c2, [], [], rfl, rfl, iha hf'.1 h1, ihb hf'.2 h2⟩
  | sl e ih => intro hf; cases hf
theorem Sh.rd_leaf {h : AHeap} : ∀ {s : Sh} {x : s.T} {cs : List Value}, s.rd h x cs → ∀ v ∈ cs, oneLeaf v = true := by
  intro s
  induction s with
  | int => rintro x cs rfl v hv; rw [List.mem_singleton.1 hv]; rfl
  | bool => rintro x cs rfl v hv; rw [List.mem_singleton.1 hv]; rfl
  | str => rintro x cs rfl v hv; rw [List.mem_singleton.1 hv]; rfl
  | byte => rintro x cs rfl v hv; rw [List.mem_singleton.1 hv]; rfl
  | pair a b iha ihb =>
    rintro x cs ⟨c1, c2, rfl, h1, h2⟩ v hv
    rcases List.mem_append.1 hv with hv | hv
    · exact iha h1 v hv
    · exact ihb h2 v hv
  | sl e ih =>
    rintro x cs ⟨a, n, c, rows, rfl, _⟩ v hv
    rw [List.mem_singleton.1 hv]; rfl
theorem Sl.rows {h : AHeap} {s : Sh} {xs : List s.T} {a : Option Addr} {n c : Nat} (x : Sl h s xs (.slice a n c)) :
    ∃ rows, h.rowsOf (.slice a n c) = some rows ∧ rows.length = n ∧ (rows.all fun row => decide (row.length = s.cells) && row.all fun v => match v with | .agg _ => false | .tuple _ => false | .complex _ _ _ => false | .chan _ => false | _ => true) = true ∧
      ∀ (i : Nat) (y : s.T) (row : List Value), xs[i]? = some y → rows[i]? = some row → s.rd h y row := by
  obtain ⟨a', n', c', rows, e, h1, h2, h3, h4⟩ := x
  cases e
  have hl := rowsOf_len h1 h2
  refine ⟨rows, h2, hl, List.all_eq_true.2 fun row hr => ?_, h4⟩
  obtain ⟨i, hi⟩ := List.mem_iff_getElem?.1 hr
  have hlt := (List.getElem?_eq_some_iff.1 hi).1
  have rd := h4 i _ row (List.getElem?_eq_getElem (by omega)) hi
  rw [Bool.and_eq_true]
  exact ⟨decide_eq_true (Sh.rd_len rd), List.all_eq_true.2 fun v hv => Sh.rd_leaf rd v hv⟩
theorem flat_nil : ∀ n : Nat, (List.replicate n ([] : List Nat)).flatten = []
  | 0 => rfl
  | n + 1 => by rw [List.replicate_succ, List.flatten_cons, flat_nil n]; rfl
theorem SoB.flat {s : Sh} (hf : s.flat = true) {h0 h g : AHeap} {xs : List s.T} {n l c : Nat} {rows : List (List Value)} (le : h0.Le h) (wf : h.wf) (wf0 : h0.wf) (hn : h0.n ≤ l) (hx : xs.length = n) (hg : h.get l = some ⟨rows, s.cells, true⟩) (hr : rows.length = n) (hc : c = 0 ∨ c = n + 1)
    (hrd : ∀ (i : Nat) (y : s.T) (row : List Value), xs[i]? = some y → rows[i]? = some row → s.rd g y row) : SoB s h0 h (some ⟨l, 0, some s.cells⟩) n c xs [l] := by
  refine ⟨le, wf, wf0, hx, ⟨by simp, fun z hz => ?_⟩, .inr ⟨l, rows, List.replicate n [], rfl, hg, hr, by simp, by rw [flat_nil], hc, fun i x row js h1 h2 h3 => ?_⟩⟩
  · rw [List.mem_singleton.1 hz]; exact ⟨hn, wf.lt hg⟩
  · rw [List.eq_of_mem_replicate (List.mem_of_getElem? h3)]
    exact Sh.flat_rn hf (hrd i x row h1 h2)
end Go.Dat
end
section
namespace Go.Dat
open Go.Abs
abbrev chkR (z : Nat) (rows : List (List Value)) : Prop := (rows.all fun row => decide (row.length = z) && row.all fun v => match v with | .agg _ => false | .tuple _ => false | .complex _ _ _ => false | .chan _ => false | _ => true) = true
theorem chkR.drop {z i : Nat} {rows : List (List Value)} (h : chkR z rows) : chkR z (rows.drop i) := List.all_eq_true.2 fun x hx => List.all_eq_true.1 h x (List.mem_of_mem_drop hx)
theorem chkR.take {z i : Nat} {rows : List (List Value)} (h : chkR z rows) : chkR z (rows.take i) := List.all_eq_true.2 fun x hx => List.all_eq_true.1 h x (List.mem_of_mem_take hx)
theorem get_rows {h : AHeap} {l r z n c : Nat} {rows : List (List Value)} (hg : h.get l = some ⟨rows, z, true⟩) (hr : r + n ≤ rows.length) : h.rowsOf (.slice (some ⟨l, r, some z⟩) n c) = some ((rows.drop r).take n) := get_rowsOf hg hr
end Go.Dat
namespace Go.Abs
end Go.Abs
end
section
namespace Go.Dat
open Go.Abs
def IdxRes (P : Nat → Prop) (n : Nat) (r : Int) : Prop := (r = -1 ∧ ∀ i, i < n → ¬ P i) ∨ ∃ i : Nat, i < n ∧ r = i ∧ P i ∧ ∀ j, j < i → ¬ P j
def SameV (x y : voteSh.T) : Prop := (show Int from x.1) = y.1 ∧ (show Int from x.2.1) = y.2.1 ∧ (show Int from x.2.2.1) = y.2.2.1 ∧ (show Int from x.2.2.2.2) = y.2.2.2.2
def VoteAt (xs : List voteSh.T) (y : voteSh.T) (i : Nat) : Prop := ∃ x : voteSh.T, xs[i]? = some x ∧ SameV x y
def VotOk (k v q : Int) (op : ByteArray) (f : Int) : Prop := (k = 2 ∨ k = 3) ∧ InR 0 7 v ∧ InR 1 6 q ∧ op.size ≤ 120 ∧ InR 0 3 f
end Go.Dat
namespace Go.Proofs.Ytanienlcebkijaa
open Go.Abs Go.Dat
set_option maxRecDepth 100000
set_option maxHeartbeats 8000000
end Go.Proofs.Ytanienlcebkijaa
end
section
namespace Go.Dat
open Go.Abs
def VtAt (xs : List voteSh.T) (i : Nat) : Prop := ∃ x : voteSh.T, xs[i]? = some x ∧ VotOk x.1 x.2.1 x.2.2.1 x.2.2.2.1 x.2.2.2.2 ∧ ∀ j, j < i → ¬ VoteAt xs x j
theorem VtAt.out {xs : List voteSh.T} {i : Nat} {k v q f : Int} {op : ByteArray} (H : VtAt xs i) (e : xs[i]? = some (k, v, q, op, f)) : VotOk k v q op f ∧ ∀ j, j < i → ¬ VoteAt xs (k, v, q, op, f) j := by
  obtain ⟨x, e', h1, h2⟩ := H
  rw [e] at e'
  cases e'
  exact ⟨h1, h2⟩
theorem IdxRes.low {P : Nat → Prop} {n : Nat} {r : Int} (H : IdxRes P n r) {i : Nat} (hi : i < n) (hP : P i) : (r < i ↔ ¬ ∀ j, j < i → ¬ P j) := by
  rcases H with ⟨_, h⟩ | ⟨m, hm, rfl, h1, h2⟩
  · exact absurd hP (h i hi)
  · constructor
    · intro hlt hn
      exact hn m (by omega) h1
    · intro hn
      refine Classical.byContradiction fun hge => hn fun j hj => h2 j (by omega)
theorem rows_take' {h : AHeap} {l r e n c i c' : Nat} {rows : List (List Value)} (hr : h.rowsOf (.slice (some ⟨l, r, some e⟩) n c) = some rows) (hi : i ≤ n) : h.rowsOf (.slice (some ⟨l, r, some e⟩) i c') = some (rows.take i) := by
  unfold AHeap.rowsOf at hr ⊢
  dsimp only at hr ⊢
  cases hg : h.get l with
  | none => rw [hg] at hr; cases hr
  | some o =>
    rw [hg] at hr
    dsimp only at hr ⊢
    cases h1 : o.esz == e with
    | false => rw [h1] at hr; cases hr
    | true =>
      rw [h1] at hr
      simp only [Bool.true_and] at hr ⊢
      by_cases h2 : r + n ≤ o.rows.length
      · rw [decide_eq_true h2] at hr
        rw [decide_eq_true (by omega : r + i ≤ o.rows.length)]
        cases hr
        show some _ = some _
        rw [List.take_take, Nat.min_eq_left hi]
      · rw [decide_eq_false h2] at hr; cases hr
theorem Sl.take {h : AHeap} {s : Sh} {xs : List s.T} {l r n c i c' : Nat} (x : Sl h s xs (.slice (some ⟨l, r, some s.cells⟩) n c)) (hi : i ≤ n) : Sl h s (xs.take i) (.slice (some ⟨l, r, some s.cells⟩) i c') := by
  obtain ⟨a', n', c'', rows, e, h1, h2, h3, h4⟩ := x
  cases e
  have up : ∀ {α : Type} {ys : List α} {j : Nat} {y : α}, (ys.take i)[j]? = some y → ys[j]? = some y := fun {_ ys j y} h => by
    rw [List.getElem?_take] at h
    split at h
    · exact h
    · cases h
  exact ⟨_, _, _, rows.take i, rfl, .inr ⟨_, _, rfl⟩, rows_take' h2 hi, by rw [List.length_take]; omega, fun j y row hy hr => h4 j y row (up hy) (up hr)⟩
theorem VoteAt.pre {xs : List voteSh.T} {y : voteSh.T} {i j : Nat} (hj : j < i) : VoteAt (xs.take i) y j ↔ VoteAt xs y j := by
  unfold VoteAt
  rw [List.getElem?_take, if_pos hj]
end Go.Dat
namespace Go.Proofs.Ytanienlcebkijaa
open Go.Abs Go.Dat
set_option maxRecDepth 100000
set_option maxHeartbeats 8000000
end Go.Proofs.Ytanienlcebkijaa
end
section
namespace Go.Dat
open Go.Abs
end Go.Dat
end
section
namespace Go.Dat
open Go.Abs
structure Cpy (s : Sh) (h0 h : AHeap) (xs : List s.T) (l c : Nat) (rows : List (List Value)) : Prop where
  le : h0.Le h
  wf : h.wf
  new : h0.n ≤ l
  get : h.get l = some ⟨rows, s.cells, true⟩
  len : rows.length = xs.length
  cap : c = 0 ∨ c = xs.length + 1
  rd : ∀ (i : Nat) (y : s.T) (row : List Value), xs[i]? = some y → rows[i]? = some row → s.rd h0 y row
structure OwI (s : Sh) (h0 : AHeap) (l : Nat) (xs : List s.T) (rows0 : List (List Value)) (i : Nat) (h : AHeap) (rows : List (List Value)) (idss : List (List Nat)) : Prop where
  hi : i ≤ xs.length
  wf0 : h0.wf
  wf : h.wf
  le : h0.Le h
  new : h0.n ≤ l
  get : h.get l = some ⟨rows, s.cells, true⟩
  len0 : rows0.length = xs.length
  len : rows.length = xs.length
  il : idss.length = i
  fr : Fresh h0.n h.n (l :: idss.flatten)
  rd0 : ∀ (j : Nat) (y : s.T) (row : List Value), xs[j]? = some y → rows0[j]? = some row → s.rd h0 y row
  done : ∀ (j : Nat) (y : s.T) (row : List Value) (js : List Nat), xs[j]? = some y → rows[j]? = some row → idss[j]? = some js → s.rn h y row js
  rest : ∀ j, i ≤ j → rows[j]? = rows0[j]?
theorem OwI.start {s : Sh} {h0 h : AHeap} {xs : List s.T} {l c : Nat} {rows : List (List Value)} (hw : h0.wf) (C : Cpy s h0 h xs l c rows) : OwI s h0 l xs rows 0 h rows [] :=
  ⟨Nat.zero_le _, hw, C.wf, C.le, C.new, C.get, C.len, C.len, rfl, ⟨by simp, fun z hz => by obtain rfl : z = l := (by simpa using hz); exact ⟨C.new, C.wf.lt C.get⟩⟩, C.rd, fun j y row js _ _ h => (by cases h), fun _ _ => rfl⟩
theorem fresh_add {a b c l : Nat} {i j : List Nat} (x : Fresh a b (l :: i)) (y : Fresh b c j) (hbc : b ≤ c) (hab : a ≤ b) : Fresh a c (l :: (i ++ j)) := x.append hab hbc y
theorem OwI.step {s : Sh} {h0 : AHeap} {l : Nat} {xs : List s.T} {rows0 : List (List Value)} {i : Nat} {h h1 : AHeap} {rows : List (List Value)} {idss : List (List Nat)} {y : s.T} {cs : List Value} {js : List Nat}
    (I : OwI s h0 l xs rows0 i h rows idss) (hy : xs[i]? = some y) (le : h.Le h1) (wf : h1.wf) (rn : s.rn h1 y cs js) (fj : Fresh h.n h1.n js) :
    OwI s h0 l xs rows0 (i + 1) (h1.put l (some ⟨rows.set i cs, s.cells, true⟩)) (rows.set i cs) (idss ++ [js]) := by
  have hil : i < xs.length := (List.getElem?_eq_some_iff.1 hy).1
  have hg := le.get _ _ I.get
  have hll := I.wf.lt I.get
  have ndl := List.nodup_cons.1 I.fr.nd
  have keep : ∀ z o, z ≠ l → h1.get z = some o → (h1.put l (some ⟨rows.set i cs, s.cells, true⟩)).get z = some o := fun z o hz ho => by rw [AHeap.get_put_ne hz]; exact ho
  have lenI := I.len
  have ilI := I.il
  refine ⟨hil, I.wf0, wf.put (wf.lt hg) _, (I.le.trans le).put (I.wf0 l I.new) _, I.new, AHeap.get_put_eq, I.len0, by rw [List.length_set]; exact I.len, by rw [List.length_append, I.il]; rfl, ?_, I.rd0, ?_, fun j hj => ?_⟩
  · rw [List.flatten_append, List.flatten_singleton]
    exact fresh_add I.fr fj le.n (by have := I.new; omega)
  · intro j z row q h1' h2 h3
    rcases getElem?_snoc h3 with ⟨hj, h3⟩ | ⟨hj, rfl⟩
    · rw [List.getElem?_set, if_neg (by omega)] at h2
      exact ((I.done j z row q h1' h2 h3).le le).keep (fun w hw' o => keep w o (fun e => ndl.1 (List.mem_flatten.2 ⟨q, List.mem_of_getElem? h3, e ▸ hw'⟩)))
    · rw [I.il] at hj
      subst hj
      rw [List.getElem?_set, if_pos rfl, if_pos (by omega)] at h2
      cases h2
      rw [hy] at h1'; cases h1'
      exact rn.keep (fun w hw' o => keep w o (fun e => by have := fj.bd w hw'; omega))
  · rw [List.getElem?_set, if_neg (by omega)]
    exact I.rest j (by omega)
theorem OwI.row {s : Sh} {h0 : AHeap} {l : Nat} {xs : List s.T} {rows0 : List (List Value)} {i : Nat} {h : AHeap} {rows : List (List Value)} {idss : List (List Nat)} {y : s.T}
    (I : OwI s h0 l xs rows0 i h rows idss) (hy : xs[i]? = some y) : ∃ row, rows[i]? = some row ∧ s.rd h0 y row ∧ h.ld l i 0 s.cells = some row := by
  have hil : i < xs.length := (List.getElem?_eq_some_iff.1 hy).1
  have hr : rows[i]? = some (rows[i]'(by rw [I.len]; exact hil)) := List.getElem?_eq_getElem _
  have rd := I.rd0 i y _ hy (by rw [← I.rest i (Nat.le_refl _)]; exact hr)
  refine ⟨_, hr, rd, ?_⟩
  have hc := Sh.rd_len rd
  unfold AHeap.ld
  rw [I.get]
  dsimp only
  rw [hr]
  dsimp only
  rw [decide_eq_true (by omega), cond_true, List.drop_zero, List.take_of_length_le (by omega)]
theorem OwI.sn {s : Sh} {h0 : AHeap} {l : Nat} {xs : List s.T} {rows0 : List (List Value)} {h : AHeap} {rows : List (List Value)} {idss : List (List Nat)} {c : Nat}
    (I : OwI s h0 l xs rows0 xs.length h rows idss) : Sn h s xs (.slice (some ⟨l, 0, some s.cells⟩) xs.length c) (l :: idss.flatten) :=
  ⟨_, _, c, rfl, rfl, .inr ⟨l, 0, rows, idss, rfl, I.get, by rw [I.len]; omega, I.il, rfl, fun i x row js h1 h2 h3 => I.done i x row js h1 (by rw [Nat.zero_add] at h2; exact h2) h3⟩⟩
end Go.Dat
end
