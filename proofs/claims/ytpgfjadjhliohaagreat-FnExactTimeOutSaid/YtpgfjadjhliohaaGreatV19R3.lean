/- N0, R2, R3. -/
import Derived.Test.YtpgfjadjhliohaaGreatV19C3
import Derived.Test.YtpgfjadjhliohaaGreatV19R1
section
namespace Go.Dat
open Go.Abs
structure Out (J : List Nat) (g g' : AHeap) : Prop where
  shp : Shp g g'
  get : ∀ z o, z ∉ J → g.get z = some o → g'.get z = some o
theorem Out.refl {J : List Nat} {g : AHeap} : Out J g g := ⟨.refl _, fun _ _ _ h => h⟩
theorem Out.trans {J : List Nat} {a b c : AHeap} (x : Out J a b) (y : Out J b c) : Out J a c := ⟨x.shp.trans y.shp, fun z o hz h => y.get z o hz (x.get z o hz h)⟩
theorem Out.widen {J K : List Nat} {a b : AHeap} (x : Out J a b) (h : ∀ z ∈ J, z ∈ K) : Out K a b := ⟨x.shp, fun z o hz => x.get z o (fun e => hz (h z e))⟩
theorem Out.of_le {J : List Nat} {a b : AHeap} (x : a.Le b) : Out J a b := ⟨x.shp, fun z o _ h => x.get z o h⟩
theorem Out.put {g : AHeap} {l e : Nat} {rows rows' : List (List Value)} {b : Bool} (hg : g.get l = some ⟨rows, e, b⟩) (hl : rows'.length = rows.length) : Out [l] g (g.put l (some ⟨rows', e, b⟩)) := by
  refine ⟨⟨Nat.le_refl _, fun z q e' b' hz => ?_⟩, fun z o hz h => ?_⟩
  · by_cases hzl : z = l
    · subst hzl
      rw [hg] at hz
      cases hz
      exact ⟨rows', AHeap.get_put_eq, hl⟩
    · exact ⟨q, by rw [AHeap.get_put_ne hzl]; exact hz, rfl⟩
  · rw [AHeap.get_put_ne (fun e => hz (by simp [e]))]; exact h
theorem nin1 {l : Nat} {J : List Nat} (h : l ∉ J) : ∀ z ∈ J, z ∉ [l] := fun z hz e => h (by simp at e; subst e; exact hz)
theorem Sh.ro.out {J : List Nat} {h h' : AHeap} (hs : Out J h h') : ∀ {s : Sh} {x : s.T} {cs : List Value} {ids : List Nat}, (∀ l ∈ ids, l ∉ J) → s.ro h x cs ids → s.ro h' x cs ids := by
  intro s
  induction s with
  | int => intro x cs ids _ e; exact e
  | bool => intro x cs ids _ e; exact e
  | str => intro x cs ids _ e; exact e
  | byte => intro x cs ids _ e; exact e
  | pair a b iha ihb =>
    rintro x cs ids hi ⟨c1, c2, i1, i2, e, rfl, h1, h2⟩
    exact ⟨c1, c2, i1, i2, e, rfl, iha (fun l hl => hi l (List.mem_append_left _ hl)) h1, ihb (fun l hl => hi l (List.mem_append_right _ hl)) h2⟩
  | sl e ih =>
    rintro xs cs ids hi ⟨a, n, c, rfl, hs', hn, ⟨rfl, e2, h1⟩ | ⟨l, r, rows, idss, rfl, hg, hr, hl, rfl, hx⟩⟩
    · exact ⟨a, 0, c, rfl, hs', hn, .inl ⟨rfl, e2, hs.shp.none hs' h1⟩⟩
    · refine ⟨_, n, c, rfl, hs', hn, .inr ⟨l, r, rows, idss, rfl, hs.get _ _ (hi l (by simp)) hg, hr, hl, rfl, fun i x row js h1 h2 h3 => ih (fun q hq => hi q ?_) (hx i x row js h1 h2 h3)⟩⟩
      exact List.mem_cons_of_mem _ (List.mem_flatten.2 ⟨js, List.mem_of_getElem? h3, hq⟩)
theorem So.out {J : List Nat} {h h' : AHeap} {s : Sh} {xs : List s.T} {v : Value} {ids : List Nat} (x : So h s xs v ids) (hs : Out J h h') (hi : ∀ l ∈ ids, l ∉ J) : So h' s xs v ids := by
  obtain ⟨v', e, h1⟩ := ro_sl.1 (Sh.ro.out hs hi (ro_sl.2 ⟨v, rfl, x⟩))
  cases e; exact h1
def mrkL {α : Type} (f : α → Int → α × Int) : List α → Int → List α × Int
  | [], k => ([], k)
  | x :: xs, k => ((f x k).1 :: (mrkL f xs (f x k).2).1, (mrkL f xs (f x k).2).2)
def Sh.mkd : (s : Sh) → s.T → Int → s.T × Int
  | .int, _, k => (k, k + 1)
  | .bool, _, k => (decide (k % 3 = 0), k + 1)
  | .str, _, k => (mtext k, k + 1)
  | .byte, x, k => (x, k)
  | .pair a b, x, k => (((a.mkd x.1 k).1, (b.mkd x.2 (a.mkd x.1 k).2).1), (b.mkd x.2 (a.mkd x.1 k).2).2)
  | .sl e, xs, k => mrkL (α := e.T) e.mkd xs k
def Sh.mkv : (s : Sh) → s.T → Int → s.T × Int
  | .int, x, k => (x, k)
  | .bool, x, k => (x, k)
  | .str, x, k => (x, k)
  | .byte, x, k => (x, k)
  | .pair a b, x, k => (((a.mkv x.1 k).1, (b.mkv x.2 (a.mkv x.1 k).2).1), (b.mkv x.2 (a.mkv x.1 k).2).2)
  | .sl e, xs, k => mrkL (α := e.T) e.mkd xs k
def Sh.cn : (s : Sh) → s.T → Nat
  | .int, _ => 1
  | .bool, _ => 1
  | .str, _ => 1
  | .byte, _ => 0
  | .pair a b, x => a.cn x.1 + b.cn x.2
  | .sl e, xs => (List.map (α := e.T) e.cn xs).sum
def Sh.cv : (s : Sh) → s.T → Nat
  | .int, _ => 0
  | .bool, _ => 0
  | .str, _ => 0
  | .byte, _ => 0
  | .pair a b, x => a.cv x.1 + b.cv x.2
  | .sl e, xs => (List.map (α := e.T) e.cn xs).sum
theorem mrkL_cn {α : Type} {f : α → Int → α × Int} {c : α → Nat} (hf : ∀ x k, (f x k).2 = k + c x) : ∀ (xs : List α) (k : Int), (mrkL f xs k).2 = k + ((xs.map c).sum : Nat) := by
  intro xs
  induction xs with
  | nil => intro k; simp [mrkL]
  | cons x xs ih => intro k; simp only [mrkL, ih, hf, List.map_cons, List.sum_cons]; omega
theorem Sh.mkd_cn : ∀ (s : Sh) (x : s.T) (k : Int), (s.mkd x k).2 = k + s.cn x := by
  intro s
  induction s with
  | int => intro x k; rfl
  | bool => intro x k; rfl
  | str => intro x k; rfl
  | byte => intro x k; simp [Sh.mkd, Sh.cn]
  | pair a b iha ihb => intro x k; simp only [Sh.mkd, Sh.cn, iha, ihb]; omega
  | sl e ih => intro x k; exact mrkL_cn ih x k
theorem Sh.mkv_cv : ∀ (s : Sh) (x : s.T) (k : Int), (s.mkv x k).2 = k + s.cv x := by
  intro s
  induction s with
  | int => intro x k; simp [Sh.mkv, Sh.cv]
  | bool => intro x k; simp [Sh.mkv, Sh.cv]
  | str => intro x k; simp [Sh.mkv, Sh.cv]
  | byte => intro x k; simp [Sh.mkv, Sh.cv]
  | pair a b iha ihb => intro x k; simp only [Sh.mkv, Sh.cv, iha, ihb]; omega
  | sl e ih => intro x k; exact mrkL_cn e.mkd_cn x k
theorem Sh.mkd_le (s : Sh) (x : s.T) (k : Int) : k ≤ (s.mkd x k).2 := by rw [s.mkd_cn]; omega
theorem Sh.mkv_le (s : Sh) (x : s.T) (k : Int) : k ≤ (s.mkv x k).2 := by rw [s.mkv_cv]; omega
theorem Sh.mrkL_le (s : Sh) (xs : List s.T) (k : Int) : k ≤ (mrkL s.mkd xs k).2 := by rw [mrkL_cn s.mkd_cn]; omega
theorem mrkL_len {α : Type} {f : α → Int → α × Int} : ∀ (xs : List α) (k : Int), (mrkL f xs k).1.length = xs.length := by
  intro xs
  induction xs with
  | nil => intro k; rfl
  | cons x xs ih => intro k; simp only [mrkL, List.length_cons, ih]
theorem sum_le {l : List Nat} {b : Nat} (h : ∀ x ∈ l, x ≤ b) : l.sum ≤ l.length * b := by
  induction l with
  | nil => simp
  | cons x xs ih =>
    have h1 := h x (by simp)
    have h2 := ih (fun y hy => h y (by simp [hy]))
    rw [List.sum_cons, List.length_cons, Nat.succ_mul]; omega
theorem Sh.cn_sl {e : Sh} {xs : List e.T} {m b : Nat} (hl : xs.length ≤ m) (h : ∀ x ∈ xs, e.cn x ≤ b) : (Sh.sl e).cn xs ≤ m * b := by
  have : (xs.map e.cn).sum ≤ (xs.map e.cn).length * b := sum_le (fun x hx => by
    obtain ⟨y, hy, rfl⟩ := List.mem_map.1 hx
    exact h y hy)
  rw [List.length_map] at this
  exact Nat.le_trans this (Nat.mul_le_mul_right _ hl)
structure El (g0 : AHeap) (l p : Nat) (rows : List (List Value)) (e : Nat) (js : List Nat) (g : AHeap) (cs : List Value) : Prop where
  get : g.get l = some ⟨rows.set p cs, e, true⟩
  hp : p < rows.length
  wf : g.wf
  out : Out (l :: js) g0 g
theorem El.wr {g0 : AHeap} {l p : Nat} {rows : List (List Value)} {e : Nat} {js : List Nat} {g : AHeap} {cs : List Value} (E : El g0 l p rows e js g cs) (j : Nat) (ws cs' : List Value) (hj : j + ws.length ≤ cs.length) (hc : setRange cs j ws = cs') :
    ∃ g', g.wr l p j ws = some g' ∧ El g0 l p rows e js g' cs' ∧ Out [l] g g' := by
  have o : Out [l] g (g.put l (some ⟨rows.set p cs', e, true⟩)) := .put E.get (by simp)
  refine ⟨g.put l (some ⟨rows.set p cs', e, true⟩), ?_, ⟨AHeap.get_put_eq, E.hp, E.wf.put (E.wf.lt E.get) _, E.out.trans (o.widen (by simp))⟩, o⟩
  unfold AHeap.wr
  rw [E.get]
  dsimp only
  rw [List.getElem?_set, if_pos rfl, if_pos E.hp]
  dsimp only
  rw [decide_eq_true hj, Bool.true_and, cond_true, List.set_set, hc]
theorem El.le {g0 : AHeap} {l p : Nat} {rows : List (List Value)} {e : Nat} {js : List Nat} {g g' : AHeap} {cs : List Value} (E : El g0 l p rows e js g cs) (hle : g.Le g') (w : g'.wf) : El g0 l p rows e js g' cs :=
  ⟨hle.get _ _ E.get, E.hp, w, E.out.trans (.of_le hle)⟩
theorem El.call {g0 : AHeap} {l p : Nat} {rows : List (List Value)} {e : Nat} {js J : List Nat} {g g' : AHeap} {cs : List Value} (E : El g0 l p rows e js g cs) (o : Out J g g') (w : g'.wf) (hl : l ∉ J) (hJ : ∀ z ∈ J, z ∈ js) : El g0 l p rows e js g' cs :=
  ⟨o.get _ _ hl E.get, E.hp, w, E.out.trans (o.widen fun z hz => List.mem_cons_of_mem _ (hJ z hz))⟩
theorem El.ld {g0 : AHeap} {l p : Nat} {rows : List (List Value)} {e : Nat} {js : List Nat} {g : AHeap} {cs : List Value} (E : El g0 l p rows e js g cs) (j m : Nat) (hj : j + m ≤ cs.length) : g.ld l p j m = some ((cs.drop j).take m) := by
  unfold AHeap.ld
  rw [E.get]
  dsimp only
  rw [List.getElem?_set, if_pos rfl, if_pos E.hp]
  dsimp only
  rw [decide_eq_true hj, cond_true]
theorem So.elem {g : AHeap} {s : Sh} {ys : List s.T} {v : Value} {ids : List Nat} (so : So g s ys v ids) (nd : ids.Nodup) (wf : g.wf) {i : Nat} {y : s.T} (hy : ys[i]? = some y) :
    ∃ l r n c rows cs js, v = .slice (some ⟨l, r, some s.cells⟩) n c ∧ i < n ∧ El g l (r + i) rows s.cells js g cs ∧ s.ro g y cs js ∧ l ∉ js ∧ js.Nodup ∧ (∀ z ∈ l :: js, z ∈ ids) ∧
      ∀ g' cs' y', El g l (r + i) rows s.cells js g' cs' → s.ro g' y' cs' js → So g' s (ys.set i y') v ids := by
  obtain ⟨a, n, c, rfl, hs, hl, ⟨rfl, rfl, h0⟩ | ⟨l, r, rows, idss, rfl, hg, hr, hil, rfl, hx⟩⟩ := so
  · have : ys = [] := List.eq_nil_of_length_eq_zero hl
    subst this; simp at hy
  have hi : i < n := by rw [← hl]; exact (List.getElem?_eq_some_iff.1 hy).1
  have hrow : rows[r + i]? = some rows[r + i] := List.getElem?_eq_getElem (by omega)
  have hjs : idss[i]? = some idss[i] := List.getElem?_eq_getElem (by omega)
  have hsub : ∀ (j : Nat) (q : List Nat), idss[j]? = some q → ∀ z ∈ q, z ∈ idss.flatten := fun j q hq z hz => List.mem_flatten.2 ⟨q, List.mem_of_getElem? hq, hz⟩
  rw [List.nodup_cons] at nd
  have ndf := List.pairwise_flatten.1 nd.2
  refine ⟨l, r, n, c, rows, rows[r + i], idss[i], rfl, hi, ⟨by rw [List.set_getElem_self]; exact hg, by omega, wf, .refl⟩, hx i y _ _ hy hrow hjs, fun e => nd.1 (hsub i _ hjs l e), ndf.1 _ (List.mem_of_getElem? hjs), fun z hz => ?_, fun g' cs' y' E ro' => ?_⟩
  · rcases List.mem_cons.1 hz with rfl | hz
    · exact List.mem_cons_self
    · exact List.mem_cons_of_mem _ (hsub i _ hjs z hz)
  · refine ⟨_, n, c, rfl, hs, by rw [List.length_set]; exact hl, .inr ⟨l, r, rows.set (r + i) cs', idss, rfl, E.get, by rw [List.length_set]; exact hr, hil, rfl, fun j x row js h1 h2 h3 => ?_⟩⟩
    by_cases hji : j = i
    · subst hji
      rw [List.getElem?_set, if_pos rfl, if_pos (by omega)] at h1 h2
      rw [hjs] at h3
      cases h1; cases h2; cases h3
      exact ro'
    · rw [List.getElem?_set, if_neg (by omega)] at h1 h2
      refine Sh.ro.out E.out (fun z hz e => ?_) (hx j x row js h1 h2 h3)
      rcases List.mem_cons.1 e with rfl | e
      · exact nd.1 (hsub j _ h3 _ hz)
      · obtain ⟨hj1, ej⟩ := List.getElem?_eq_some_iff.1 h3
        have hp := List.pairwise_iff_getElem.1 ndf.2
        rcases Nat.lt_or_gt_of_ne hji with hlt | hgt
        · exact hp j i hj1 (by omega) hlt z (by rw [ej]; exact hz) z e rfl
        · exact hp i j (by omega) hj1 hgt z e z (by rw [ej]; exact hz) rfl
structure MkI (s : Sh) (h : AHeap) (xs : List s.T) (k : Int) (v : Value) (ids : List Nat) (i : Nat) (ki : Int) (g : AHeap) (ys : List s.T) : Prop where
  hi : i ≤ xs.length
  k0 : 0 ≤ ki
  wf : g.wf
  out : Out ids h g
  so : So g s ys v ids
  rest : ys.drop i = xs.drop i
  eq1 : (mrkL s.mkd xs k).1 = ys.take i ++ (mrkL s.mkd (xs.drop i) ki).1
  eq2 : (mrkL s.mkd xs k).2 = (mrkL s.mkd (xs.drop i) ki).2
theorem MkI.start {s : Sh} {h : AHeap} {xs : List s.T} {k : Int} {v : Value} {ids : List Nat} (hw : h.wf) (hk : 0 ≤ k) (so : So h s xs v ids) : MkI s h xs k v ids 0 k h xs :=
  ⟨Nat.zero_le _, hk, hw, .refl, so, rfl, rfl, rfl⟩
theorem MkI.at {s : Sh} {h : AHeap} {xs : List s.T} {k : Int} {v : Value} {ids : List Nat} {i : Nat} {ki : Int} {g : AHeap} {ys : List s.T} (I : MkI s h xs k v ids i ki g ys) {x : s.T} (hx : xs[i]? = some x) : ys[i]? = some x := by
  have h1 : (ys.drop i)[0]? = (xs.drop i)[0]? := by rw [I.rest]
  rw [List.getElem?_drop, List.getElem?_drop, Nat.add_zero] at h1
  rw [h1, hx]
theorem drop_at {α : Type} {xs : List α} {i : Nat} {x : α} (hx : xs[i]? = some x) : xs.drop i = x :: xs.drop (i + 1) := by
  obtain ⟨hi, e⟩ := List.getElem?_eq_some_iff.1 hx
  rw [List.drop_eq_getElem_cons hi, e]
theorem MkI.bound {s : Sh} {h : AHeap} {xs : List s.T} {k : Int} {v : Value} {ids : List Nat} {i : Nat} {ki : Int} {g : AHeap} {ys : List s.T} (I : MkI s h xs k v ids i ki g ys) {x : s.T} (hx : xs[i]? = some x) {b : Int} (hb : (mrkL s.mkd xs k).2 ≤ b) : (s.mkd x ki).2 ≤ b := by
  have h1 := I.eq2
  rw [drop_at hx] at h1
  simp only [mrkL] at h1
  have := s.mrkL_le (xs.drop (i + 1)) (s.mkd x ki).2
  omega
theorem MkI.step {s : Sh} {h : AHeap} {xs : List s.T} {k : Int} {v : Value} {ids : List Nat} {i : Nat} {ki : Int} {g : AHeap} {ys : List s.T} (I : MkI s h xs k v ids i ki g ys) {x : s.T} (hx : xs[i]? = some x) {g' : AHeap} (wf : g'.wf) (o : Out ids g g') (so : So g' s (ys.set i (s.mkd x ki).1) v ids) :
    MkI s h xs k v ids (i + 1) (s.mkd x ki).2 g' (ys.set i (s.mkd x ki).1) := by
  obtain ⟨hi, e⟩ := List.getElem?_eq_some_iff.1 hx
  have hyi : i < ys.length := (List.getElem?_eq_some_iff.1 (I.at hx)).1
  have h1 := I.eq1
  have h2 := I.eq2
  rw [drop_at hx] at h1 h2
  simp only [mrkL] at h1 h2
  refine ⟨hi, Int.le_trans I.k0 (s.mkd_le x ki), wf, I.out.trans o, so, ?_, ?_, h2⟩
  · rw [List.drop_set, if_pos (by omega)]
    have := I.rest
    rw [drop_at hx, drop_at (I.at hx)] at this
    exact (List.cons.inj this).2
  · rw [h1, List.take_add_one, List.getElem?_set, if_pos rfl, if_pos hyi, List.take_set_of_le (Nat.le_refl _), List.append_assoc]; rfl
theorem MkI.finish {s : Sh} {h : AHeap} {xs : List s.T} {k : Int} {v : Value} {ids : List Nat} {i : Nat} {ki : Int} {g : AHeap} {ys : List s.T} (I : MkI s h xs k v ids i ki g ys) (hi : i = xs.length) : (mrkL s.mkd xs k).2 = ki ∧ So g s (mrkL s.mkd xs k).1 v ids := by
  have h1 := I.eq1
  have h2 := I.eq2
  have hr := I.rest
  subst hi
  rw [List.drop_length] at h1 h2 hr
  have hl : ys.length ≤ xs.length := List.drop_eq_nil_iff.1 hr
  rw [List.take_of_length_le hl] at h1
  simp only [mrkL, List.append_nil] at h1 h2
  exact ⟨h2, by rw [h1]; exact I.so⟩
def _root_.Go.Abs.mkLp (s : Sh) (h : AHeap) (xs : List s.T) (k : Int) (v : Value) (ids : List Nat) : LSpec where
  ι := Nat × Int × AHeap × List s.T
  κ := AHeap
  I := fun i => MkI s h xs k v ids i.1 i.2.1 i.2.2.1 i.2.2.2
  μ := fun i => xs.length - i.1
  head := fun i => ⟨[(0, v), (1, .int .i64 i.2.1), (5, .int .i64 i.1)], [], i.2.2.1⟩
  post := fun j => ⟨[(1, .int .i64 (mrkL s.mkd xs k).2)], [], j⟩
  R := fun _ j => j.wf ∧ Out ids h j ∧ So j s (mrkL s.mkd xs k).1 v ids
  ret := fun _ _ _ => False
structure HdI (s : Sh) (h : AHeap) (xs : List s.T) (k : Int) (i : Nat) (ki : Int) (g : AHeap) : Prop where
  hi : i ≤ xs.length
  k0 : 0 ≤ ki
  wf : g.wf
  le : h.Le g
  rest : (mrkL s.mkd xs k).1.drop i = (mrkL s.mkd (xs.drop i) ki).1
  eq2 : (mrkL s.mkd xs k).2 = (mrkL s.mkd (xs.drop i) ki).2
theorem HdI.start {s : Sh} {h : AHeap} {xs : List s.T} {k : Int} (hw : h.wf) (hk : 0 ≤ k) : HdI s h xs k 0 k h := ⟨Nat.zero_le _, hk, hw, .refl _, rfl, rfl⟩
theorem HdI.at {s : Sh} {h : AHeap} {xs : List s.T} {k : Int} {i : Nat} {ki : Int} {g : AHeap} (I : HdI s h xs k i ki g) {x : s.T} (hx : xs[i]? = some x) : (mrkL s.mkd xs k).1[i]? = some (s.mkd x ki).1 := by
  have h1 : ((mrkL s.mkd xs k).1.drop i)[0]? = ((mrkL s.mkd (xs.drop i) ki).1)[0]? := by rw [I.rest]
  rw [List.getElem?_drop, Nat.add_zero, drop_at hx] at h1
  exact h1
theorem HdI.bound {s : Sh} {h : AHeap} {xs : List s.T} {k : Int} {i : Nat} {ki : Int} {g : AHeap} (I : HdI s h xs k i ki g) {x : s.T} (hx : xs[i]? = some x) {b : Int} (hb : (mrkL s.mkd xs k).2 ≤ b) : (s.mkd x ki).2 ≤ b := by
  have h1 := I.eq2
  rw [drop_at hx] at h1
  simp only [mrkL] at h1
  have := s.mrkL_le (xs.drop (i + 1)) (s.mkd x ki).2
  omega
theorem HdI.step {s : Sh} {h : AHeap} {xs : List s.T} {k : Int} {i : Nat} {ki : Int} {g : AHeap} (I : HdI s h xs k i ki g) {x : s.T} (hx : xs[i]? = some x) {g' : AHeap} (wf : g'.wf) (le : g.Le g') : HdI s h xs k (i + 1) (s.mkd x ki).2 g' := by
  have h1 := I.rest
  have h2 := I.eq2
  rw [drop_at hx] at h1 h2
  simp only [mrkL] at h1 h2
  refine ⟨(List.getElem?_eq_some_iff.1 hx).1, Int.le_trans I.k0 (s.mkd_le x ki), wf, I.le.trans le, ?_, h2⟩
  have h3 : ((mrkL s.mkd xs k).1.drop i).drop 1 = ((s.mkd x ki).1 :: (mrkL s.mkd (xs.drop (i + 1)) (s.mkd x ki).2).1).drop 1 := by rw [h1]
  rw [List.drop_drop] at h3
  exact h3
theorem HdI.finish {s : Sh} {h : AHeap} {xs : List s.T} {k : Int} {i : Nat} {ki : Int} {g : AHeap} (I : HdI s h xs k i ki g) (hi : i = xs.length) : (mrkL s.mkd xs k).2 = ki := by
  have h2 := I.eq2
  subst hi
  rw [List.drop_length] at h2
  exact h2
def _root_.Go.Abs.hdLp (s : Sh) (h : AHeap) (xs : List s.T) (k : Int) (v : Value) : LSpec where
  ι := Nat × Int × AHeap
  κ := AHeap
  I := fun i => HdI s h xs k i.1 i.2.1 i.2.2
  μ := fun i => xs.length - i.1
  head := fun i => ⟨[(0, v), (1, .int .i64 i.2.1), (5, .int .i64 i.1)], [], i.2.2⟩
  post := fun j => ⟨[(1, .int .i64 (mrkL s.mkd xs k).2)], [], j⟩
  R := fun _ j => j.wf ∧ h.Le j
  ret := fun _ _ _ => False
def Sh.rn (h : AHeap) : (s : Sh) → s.T → List Value → List Nat → Prop
  | .int, x, cs, ids => cs = [.int .i64 x] ∧ ids = []
  | .bool, x, cs, ids => cs = [.bool x] ∧ ids = []
  | .str, x, cs, ids => cs = [.string x] ∧ ids = []
  | .byte, x, cs, ids => cs = [.int .u8 x] ∧ ids = []
  | .pair a b, x, cs, ids => ∃ c1 c2 i1 i2, cs = c1 ++ c2 ∧ ids = i1 ++ i2 ∧ a.rn h x.1 c1 i1 ∧ b.rn h x.2 c2 i2
  | .sl e, xs, cs, ids => ∃ a n c, cs = [.slice a n c] ∧ List.length (α := e.T) xs = n ∧
      ((a = none ∧ n = 0 ∧ c = 0 ∧ ids = []) ∨ ∃ l r rows idss, a = some ⟨l, r, some e.cells⟩ ∧ h.get l = some ⟨rows, e.cells, true⟩ ∧ r + n ≤ rows.length ∧ List.length (α := List Nat) idss = n ∧ ids = l :: idss.flatten ∧
        ∀ (i : Nat) (x : e.T) (row : List Value) (js : List Nat), (show List e.T from xs)[i]? = some x → rows[r + i]? = some row → idss[i]? = some js → e.rn h x row js)
def Sn (h : AHeap) (s : Sh) (xs : List s.T) (v : Value) (ids : List Nat) : Prop :=
  ∃ a n c, v = .slice a n c ∧ xs.length = n ∧
      ((a = none ∧ n = 0 ∧ c = 0 ∧ ids = []) ∨ ∃ l r rows idss, a = some ⟨l, r, some s.cells⟩ ∧ h.get l = some ⟨rows, s.cells, true⟩ ∧ r + n ≤ rows.length ∧ List.length (α := List Nat) idss = n ∧ ids = l :: idss.flatten ∧
        ∀ (i : Nat) (x : s.T) (row : List Value) (js : List Nat), xs[i]? = some x → rows[r + i]? = some row → idss[i]? = some js → s.rn h x row js)
theorem rn_sl {h : AHeap} {s : Sh} {xs : List s.T} {cs : List Value} {ids : List Nat} : Sh.rn h (.sl s) xs cs ids ↔ ∃ v, cs = [v] ∧ Sn h s xs v ids := by
  constructor
  · rintro ⟨a, n, c, rfl, h1⟩
    exact ⟨_, rfl, a, n, c, rfl, h1⟩
  · rintro ⟨_, rfl, a, n, c, rfl, h1⟩
    exact ⟨a, n, c, rfl, h1⟩
theorem Sh.rn.ro {h : AHeap} : ∀ {s : Sh} {x : s.T} {cs : List Value} {ids : List Nat}, s.rn h x cs ids → s.ro h x cs ids := by
  intro s
  induction s with
  | int => intro x cs ids e; exact e
  | bool => intro x cs ids e; exact e
  | str => intro x cs ids e; exact e
  | byte => intro x cs ids e; exact e
  | pair a b iha ihb =>
    rintro x cs ids ⟨c1, c2, i1, i2, e, e2, h1, h2⟩
    exact ⟨c1, c2, i1, i2, e, e2, iha h1, ihb h2⟩
  | sl e ih =>
    rintro xs cs ids ⟨a, n, c, rfl, hn, ⟨rfl, rfl, rfl, rfl⟩ | ⟨l, r, rows, idss, rfl, hg, hr, hl, rfl, hx⟩⟩
    · exact ⟨none, 0, 0, rfl, .inl ⟨rfl, rfl, rfl⟩, hn, .inl ⟨rfl, rfl, rfl⟩⟩
    · exact ⟨_, n, c, rfl, .inr ⟨l, r, rfl⟩, hn, .inr ⟨l, r, rows, idss, rfl, hg, hr, hl, rfl, fun i x row js h1 h2 h3 => ih (hx i x row js h1 h2 h3)⟩⟩
theorem Sn.so {h : AHeap} {s : Sh} {xs : List s.T} {v : Value} {ids : List Nat} (x : Sn h s xs v ids) : So h s xs v ids := by
  obtain ⟨v', e, h1⟩ := ro_sl.1 (Sh.rn.ro (rn_sl.2 ⟨v, rfl, x⟩))
  cases e; exact h1
theorem Sh.rn.keep {h g : AHeap} : ∀ {s : Sh} {x : s.T} {cs : List Value} {ids : List Nat}, (∀ z ∈ ids, ∀ o, h.get z = some o → g.get z = some o) → s.rn h x cs ids → s.rn g x cs ids := by
  intro s
  induction s with
  | int => intro x cs ids _ e; exact e
  | bool => intro x cs ids _ e; exact e
  | str => intro x cs ids _ e; exact e
  | byte => intro x cs ids _ e; exact e
  | pair a b iha ihb =>
    rintro x cs ids hi ⟨c1, c2, i1, i2, e, rfl, h1, h2⟩
    exact ⟨c1, c2, i1, i2, e, rfl, iha (fun l hl => hi l (List.mem_append_left _ hl)) h1, ihb (fun l hl => hi l (List.mem_append_right _ hl)) h2⟩
  | sl e ih =>
    rintro xs cs ids hi ⟨a, n, c, rfl, hn, ⟨rfl, rfl, rfl, rfl⟩ | ⟨l, r, rows, idss, rfl, hg, hr, hl, rfl, hx⟩⟩
    · exact ⟨none, 0, 0, rfl, hn, .inl ⟨rfl, rfl, rfl, rfl⟩⟩
    · refine ⟨_, n, c, rfl, hn, .inr ⟨l, r, rows, idss, rfl, hi l (by simp) _ hg, hr, hl, rfl, fun i x row js h1 h2 h3 => ih (fun q hq => hi q ?_) (hx i x row js h1 h2 h3)⟩⟩
      exact List.mem_cons_of_mem _ (List.mem_flatten.2 ⟨js, List.mem_of_getElem? h3, hq⟩)
theorem Sh.rn.le {h g : AHeap} (le : h.Le g) {s : Sh} {x : s.T} {cs : List Value} {ids : List Nat} (r : s.rn h x cs ids) : s.rn g x cs ids := r.keep (fun z _ o hz => le.get z o hz)
theorem Sn.keep {h g : AHeap} {s : Sh} {xs : List s.T} {v : Value} {ids : List Nat} (x : Sn h s xs v ids) (hi : ∀ z ∈ ids, ∀ o, h.get z = some o → g.get z = some o) : Sn g s xs v ids := by
  obtain ⟨v', e, h1⟩ := rn_sl.1 (Sh.rn.keep hi (rn_sl.2 ⟨v, rfl, x⟩))
  cases e; exact h1
theorem Sn.le {h g : AHeap} (le : h.Le g) {s : Sh} {xs : List s.T} {v : Value} {ids : List Nat} (x : Sn h s xs v ids) : Sn g s xs v ids := x.keep (fun z _ o hz => le.get z o hz)
theorem Sn.nil {h : AHeap} {s : Sh} : Sn h s [] (.slice none 0 0) [] := ⟨none, 0, 0, rfl, rfl, .inl ⟨rfl, rfl, rfl, rfl⟩⟩
structure SoB (s : Sh) (h0 h : AHeap) (a : Option Addr) (n c : Nat) (xs : List s.T) (ids : List Nat) : Prop where
  le : h0.Le h
  wf : h.wf
  wf0 : h0.wf
  len : xs.length = n
  fr : Fresh h0.n h.n ids
  at_ : (a = none ∧ n = 0 ∧ c = 0 ∧ ids = []) ∨ ∃ l rows idss, a = some ⟨l, 0, some s.cells⟩ ∧ h.get l = some ⟨rows, s.cells, true⟩ ∧ rows.length = n ∧ List.length (α := List Nat) idss = n ∧ ids = l :: idss.flatten ∧ (c = 0 ∨ c = n + 1) ∧
    ∀ (i : Nat) (x : s.T) (row : List Value) (js : List Nat), xs[i]? = some x → rows[i]? = some row → idss[i]? = some js → s.rn h x row js
theorem SoB.nil {s : Sh} {h : AHeap} (hw : h.wf) : SoB s h h none 0 0 [] [] := ⟨.refl _, hw, hw, rfl, .nil, .inl ⟨rfl, rfl, rfl, rfl⟩⟩
theorem SoB.sn {s : Sh} {h0 h : AHeap} {a : Option Addr} {n c : Nat} {xs : List s.T} {ids : List Nat} (B : SoB s h0 h a n c xs ids) : Sn h s xs (.slice a n c) ids := by
  obtain ⟨rfl, rfl, rfl, rfl⟩ | ⟨l, rows, idss, rfl, hg, hr, hi, rfl, hc, hx⟩ := B.at_
  · exact ⟨none, 0, 0, rfl, B.len, .inl ⟨rfl, rfl, rfl, rfl⟩⟩
  · exact ⟨_, n, c, rfl, B.len, .inr ⟨l, 0, rows, idss, rfl, hg, by omega, hi, rfl, fun i x row js h1 h2 h3 => hx i x row js h1 (by rw [Nat.zero_add] at h2; exact h2) h3⟩⟩
theorem SoB.step {s : Sh} {h0 h h' : AHeap} {a : Option Addr} {n c : Nat} {xs : List s.T} {ids : List Nat} (B : SoB s h0 h a n c xs ids) (le0 : h0.Le h') (wf : h'.wf) (hn : h.n ≤ h'.n) (hk : ∀ z ∈ ids, ∀ o, h.get z = some o → h'.get z = some o) : SoB s h0 h' a n c xs ids :=
  ⟨le0, wf, B.wf0, B.len, B.fr.widen (Nat.le_refl _) hn, by
    obtain e | ⟨l, rows, idss, e, hg, hr, hi, e2, hc, hx⟩ := B.at_
    · exact .inl e
    · subst e2
      exact .inr ⟨l, rows, idss, e, hk l List.mem_cons_self _ hg, hr, hi, rfl, hc, fun i x row js h1 h2 h3 => (hx i x row js h1 h2 h3).keep (fun z hz => hk z (List.mem_cons_of_mem _ (List.mem_flatten.2 ⟨js, List.mem_of_getElem? h3, hz⟩)))⟩⟩
theorem SoB.grow {s : Sh} {h0 h h' : AHeap} {a : Option Addr} {n c : Nat} {xs : List s.T} {ids : List Nat} (B : SoB s h0 h a n c xs ids) (le : h.Le h') (wf : h'.wf) : SoB s h0 h' a n c xs ids :=
  B.step (B.le.trans le) wf le.n (fun z _ o hz => le.get z o hz)
theorem Fresh.perm3 {a b m : Nat} {l : Nat} {i j : List Nat} (x : Fresh a b (l :: i)) (y : Fresh a b j) (d : ∀ z ∈ i, z ∉ j) (hm : b ≤ m) : Fresh a (m + 1) (m :: (i ++ j)) := by
  refine ⟨List.nodup_cons.2 ⟨fun e => ?_, List.nodup_append.2 ⟨(List.nodup_cons.1 x.nd).2, y.nd, fun p hp q hq e => d p hp (e ▸ hq)⟩⟩, fun z hz => ?_⟩
  · rcases List.mem_append.1 e with e | e
    · have := (x.bd m (List.mem_cons_of_mem _ e)).2; omega
    · have := (y.bd m e).2; omega
  · rcases List.mem_cons.1 hz with rfl | hz
    · have := x.bd l List.mem_cons_self; omega
    · rcases List.mem_append.1 hz with e | e
      · have := x.bd z (List.mem_cons_of_mem _ e); omega
      · have := y.bd z e; omega
theorem SoB.app {s : Sh} {h0 h : AHeap} {a : Option Addr} {n c : Nat} {xs : List s.T} {ids js : List Nat} {x : s.T} {cs : List Value} (B : SoB s h0 h a n c xs ids) (rn : s.rn h x cs js) (fj : Fresh h0.n h.n js) (d : ∀ z ∈ ids, z ∉ js) :
    ∃ l h' ids', h.app (.slice a n c) [cs] s.cells = some (.slice (some ⟨l, 0, some s.cells⟩) (n + 1) 0, h') ∧ SoB s h0 h' (some ⟨l, 0, some s.cells⟩) (n + 1) 0 (xs ++ [x]) ids' ∧ h.n ≤ h'.n ∧ (∀ z ∈ ids', z = h.n ∨ z ∈ ids ∨ z ∈ js) ∧ ∀ z o, z ∉ ids → h.get z = some o → h'.get z = some o := by
  have nb := B.len
  have sz : (xs ++ [x]).length = n + 1 := by rw [List.length_append, nb]; rfl
  obtain ⟨rfl, rfl, rfl, rfl⟩ | ⟨l, rows, idss, rfl, hg, hr, hi, rfl, hc, hx⟩ := B.at_
  · have e0 : xs = [] := List.eq_nil_of_length_eq_zero nb
    subst e0
    have lp := AHeap.Le.push B.wf ⟨[cs], s.cells, true⟩
    refine ⟨h.n, h.push ⟨[cs], s.cells, true⟩, h.n :: [js].flatten, rfl, ⟨B.le.trans lp, B.wf.push _, B.wf0, sz, ?_, .inr ⟨h.n, [cs], [js], rfl, AHeap.get_push_eq, rfl, rfl, rfl, .inl rfl, ?_⟩⟩, lp.n, fun z hz => ?_, fun z o _ hz => lp.get z o hz⟩
    · refine ⟨List.nodup_cons.2 ⟨fun e => ?_, by simpa using fj.nd⟩, fun z hz => ?_⟩
      · have := (fj.bd h.n (by simpa using e)).2; omega
      · show h0.n ≤ z ∧ z < h.n + 1
        rcases List.mem_cons.1 hz with rfl | hz
        · have := B.le.n; omega
        · have := fj.bd z (by simpa using hz); omega
    · intro i y row q h1 h2 h3
      have : i = 0 := by have := (List.getElem?_eq_some_iff.1 h2).1; simp at this; omega
      subst this
      simp at h1 h2 h3
      subst h1; subst h2; subst h3
      exact rn.le lp
    · rcases List.mem_cons.1 hz with rfl | hz
      · exact .inl rfl
      · exact .inr (.inr (by simpa using hz))
  · have hro : h.rowsOf (.slice (some ⟨l, 0, some s.cells⟩) n c) = some rows := by rw [get_rowsOf hg (by omega), List.drop_zero, List.take_of_length_le (by omega)]
    have ndl := List.nodup_cons.1 B.fr.nd
    have hlj : l ∉ js := d l List.mem_cons_self
    have hlt : l < h.n := B.wf.lt hg
    have h0l : h0.n ≤ l := (B.fr.bd l List.mem_cons_self).1
    have key : ∀ (g : AHeap), g.wf → h0.Le g → g.n = h.n → (∀ z o, z ≠ l → h.get z = some o → g.get z = some o) → SoB s h0 (g.push ⟨rows ++ [cs], s.cells, true⟩) (some ⟨h.n, 0, some s.cells⟩) (n + 1) 0 (xs ++ [x]) (h.n :: (idss ++ [js]).flatten) ∧ ∀ z o, z ∉ l :: idss.flatten → h.get z = some o → (g.push ⟨rows ++ [cs], s.cells, true⟩).get z = some o := by
      intro g gw gl gn keep
      have lp := AHeap.Le.push gw ⟨rows ++ [cs], s.cells, true⟩
      have k2 : ∀ z o, z ≠ l → h.get z = some o → (g.push ⟨rows ++ [cs], s.cells, true⟩).get z = some o := fun z o hz ho => lp.get z o (keep z o hz ho)
      refine ⟨⟨gl.trans lp, gw.push _, B.wf0, sz, ?_, .inr ⟨h.n, rows ++ [cs], idss ++ [js], rfl, by rw [← gn]; exact AHeap.get_push_eq, by simp [hr], by simp [hi], rfl, .inl rfl, ?_⟩⟩, fun z o hz ho => k2 z o (fun e => hz (by simp [e])) ho⟩
      · show Fresh h0.n (g.n + 1) _
        rw [gn, List.flatten_append, List.flatten_singleton]
        exact B.fr.perm3 fj (fun z hz => d z (List.mem_cons_of_mem _ hz)) (Nat.le_refl _)
      · intro i y row q h1 h2 h3
        rcases getElem?_snoc h1 with ⟨hi1, h1⟩ | ⟨hi1, rfl⟩
        · rw [List.getElem?_append_left (by omega)] at h2 h3
          refine (hx i y row q h1 h2 h3).keep (fun z hz o => k2 z o (fun e => ?_))
          subst e
          exact ndl.1 (List.mem_flatten.2 ⟨q, List.mem_of_getElem? h3, hz⟩)
        · rw [List.getElem?_append_right (by omega), show i - rows.length = 0 by omega] at h2
          rw [List.getElem?_append_right (by omega), show i - idss.length = 0 by omega] at h3
          simp at h2 h3
          subst h2; subst h3
          exact rn.keep (fun z hz o => k2 z o (fun e => hlj (e ▸ hz)))
    have mem : ∀ z ∈ h.n :: (idss ++ [js]).flatten, z = h.n ∨ z ∈ l :: idss.flatten ∨ z ∈ js := fun z hz => by
      rw [List.flatten_append, List.flatten_singleton] at hz
      rcases List.mem_cons.1 hz with rfl | hz
      · exact .inl rfl
      · rcases List.mem_append.1 hz with e | e
        · exact .inr (.inl (List.mem_cons_of_mem _ e))
        · exact .inr (.inr e)
    unfold AHeap.app
    dsimp only
    rw [hro]
    dsimp only
    rw [beq_self_eq_true, cond_true]
    cases hcc : (c != 0 && decide (c ≤ n + [cs].length)) with
    | true =>
      rw [cond_true]
      obtain ⟨k1, k2⟩ := key h B.wf B.le rfl (fun z o _ hz => hz)
      exact ⟨h.n, _, _, rfl, k1, Nat.le_succ _, mem, k2⟩
    | false =>
      rw [cond_false, hg]
      dsimp only
      have hno : (c != 0 && decide (0 + n + [cs].length ≤ rows.length)) = false := by
        rw [Bool.and_eq_false_iff]; right; rw [decide_eq_false_iff_not, List.length_singleton]; omega
      rw [cond_true, hno, cond_false]
      obtain ⟨k1, k2⟩ := key (h.put l none) (B.wf.put hlt _) (B.le.put (B.wf0 l h0l) none) rfl (fun z o hz ho => by rw [AHeap.get_put_ne hz]; exact ho)
      exact ⟨h.n, _, _, rfl, k1, Nat.le_succ _, mem, k2⟩
end Go.Dat
end
section
namespace Go.Dat
open Go.Abs
end Go.Dat
namespace Go.Proofs.YtpgfjadjhliohaaGreat
open Go.Abs Go.Dat
set_option maxRecDepth 100000
set_option maxHeartbeats 8000000
def o3 (a b c : Value) : AObj := ⟨[[a, b, c]], 3, true⟩
end Go.Proofs.YtpgfjadjhliohaaGreat
end
section
namespace Go.Dat
open Go.Abs
structure Kp (J : List Nat) (g g' : AHeap) : Prop where
  n : g.n ≤ g'.n
  get : ∀ z o, z ∉ J → g.get z = some o → g'.get z = some o
theorem Kp.refl {J : List Nat} {g : AHeap} : Kp J g g := ⟨Nat.le_refl _, fun _ _ _ h => h⟩
theorem Kp.trans {J : List Nat} {a b c : AHeap} (x : Kp J a b) (y : Kp J b c) : Kp J a c := ⟨Nat.le_trans x.n y.n, fun z o hz h => y.get z o hz (x.get z o hz h)⟩
theorem Kp.widen {J K : List Nat} {a b : AHeap} (x : Kp J a b) (h : ∀ z ∈ J, z ∈ K) : Kp K a b := ⟨x.n, fun z o hz => x.get z o (fun e => hz (h z e))⟩
theorem _root_.Go.Dat.Out.kp {J : List Nat} {a b : AHeap} (x : Out J a b) : Kp J a b := ⟨x.shp.n, x.get⟩
theorem Kp.of_le {J : List Nat} {a b : AHeap} (x : a.Le b) : Kp J a b := ⟨x.n, fun z o _ h => x.get z o h⟩
theorem Kp.drop {J K : List Nat} {a b c : AHeap} (w : a.wf) (x : Kp J a b) (y : Kp K b c) (h : ∀ z ∈ K, z ∈ J ∨ a.n ≤ z) : Kp J a c :=
  ⟨Nat.le_trans x.n y.n, fun z o hz ho => y.get z o (fun e => by
    rcases h z e with h1 | h1
    · exact hz h1
    · have := w.lt ho; omega) (x.get z o hz ho)⟩
theorem Kp.le {J : List Nat} {a b : AHeap} (w : a.wf) (x : Kp J a b) (h : ∀ z ∈ J, a.n ≤ z) : a.Le b := ⟨x.n, fun z o ho => x.get z o (fun e => by have := h z e; have := w.lt ho; omega) ho⟩
def E0 (n : Nat) : AHeap := ⟨n, fun _ => none⟩
theorem E0.le {n : Nat} {h : AHeap} (x : n ≤ h.n) : (E0 n).Le h := ⟨x, fun _ _ e => by cases e⟩
theorem E0.wf {n : Nat} : (E0 n).wf := fun _ _ => rfl
theorem SoB.new {s : Sh} {n : Nat} {h : AHeap} (hw : h.wf) (hn : n ≤ h.n) : SoB s (E0 n) h none 0 0 [] [] := ⟨E0.le hn, hw, E0.wf, rfl, .nil, .inl ⟨rfl, rfl, rfl, rfl⟩⟩
theorem SoB.kp {s : Sh} {n0 : Nat} {h h' : AHeap} {a : Option Addr} {n c : Nat} {xs : List s.T} {ids J : List Nat} (B : SoB s (E0 n0) h a n c xs ids) (k : Kp J h h') (wf : h'.wf) (hJ : ∀ z ∈ ids, z ∉ J) : SoB s (E0 n0) h' a n c xs ids :=
  B.step (E0.le (Nat.le_trans B.le.n k.n)) wf k.n (fun z hz o => k.get z o (hJ z hz))
theorem Sn.kp {s : Sh} {h h' : AHeap} {xs : List s.T} {v : Value} {ids J : List Nat} (x : Sn h s xs v ids) (k : Kp J h h') (hJ : ∀ z ∈ ids, z ∉ J) : Sn h' s xs v ids := x.keep (fun z hz o => k.get z o (hJ z hz))
theorem SoB.app' {s : Sh} {n0 : Nat} {h : AHeap} {a : Option Addr} {n c : Nat} {xs : List s.T} {ids js : List Nat} {x : s.T} {cs : List Value} (B : SoB s (E0 n0) h a n c xs ids) (rn : s.rn h x cs js) (fj : Fresh n0 h.n js) (d : ∀ z ∈ ids, z ∉ js) :
    ∃ l h' ids', h.app (.slice a n c) [cs] s.cells = some (.slice (some ⟨l, 0, some s.cells⟩) (n + 1) 0, h') ∧ SoB s (E0 n0) h' (some ⟨l, 0, some s.cells⟩) (n + 1) 0 (xs ++ [x]) ids' ∧ Kp ids h h' ∧ h'.wf ∧ ∀ z ∈ ids', z = h.n ∨ z ∈ ids ∨ z ∈ js := by
  obtain ⟨l, h', ids', e, B', hn, hm, hk⟩ := B.app rn fj d
  exact ⟨l, h', ids', e, B', ⟨hn, hk⟩, B'.wf, hm⟩
end Go.Dat
end
