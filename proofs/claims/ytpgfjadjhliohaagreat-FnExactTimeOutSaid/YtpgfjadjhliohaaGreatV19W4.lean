/- W1, P0, W2, W3, W4. -/
import Derived.Test.YtpgfjadjhliohaaGreatV19W0
import Derived.Test.YtpgfjadjhliohaaGreatV19R3
section
namespace Go.Dat
open Go.Abs
structure Cpy (s : Sh) (h0 h : AHeap) (xs : List s.T) (l c : Nat) (rows : List (List Value)) : Prop where
  le : h0.Le h
  wf : h.wf
  new : h0.n ≤ l
  get : h.get l = some ⟨rows, s.cells, true⟩
  len : rows.length = xs.length
  cap : c = 0 ∨ c = xs.length + 1
  rd : ∀ (i : Nat) (y : s.T) (row : List Value), xs[i]? = some y → rows[i]? = some row → s.rd h0 y row
theorem app_shallow {s : Sh} {h : AHeap} (hw : h.wf) {a : Option Addr} {c : Nat} {xs : List s.T} (x : Sl h s xs (.slice a xs.length c)) :
    ∃ rows, rowsV (h.push ⟨[], s.cells, true⟩) (.slice a xs.length c) = some rows ∧ chkR s.cells rows ∧ rows.length = xs.length ∧
      ∃ l c' h', (h.push ⟨[], s.cells, true⟩).app (.slice (some ⟨h.n, 0, some s.cells⟩) 0 1) rows s.cells = some (.slice (some ⟨l, 0, some s.cells⟩) xs.length c', h') ∧ Cpy s h h' xs l c' rows := by
  have lp := AHeap.Le.push hw ⟨[], s.cells, true⟩
  have wp := hw.push ⟨[], s.cells, true⟩
  obtain ⟨rows, h2, hl, hall, hrd⟩ := x.rows
  refine ⟨rows, lp.rowsOf h2, hall, hl, ?_⟩
  cases rows with
  | nil => exact ⟨h.n, 1, _, by rw [← hl]; rfl, lp, wp, Nat.le_refl _, AHeap.get_push_eq, hl, .inr (by rw [← hl]; rfl), hrd⟩
  | cons r rs =>
    refine ⟨(h.push ⟨[], s.cells, true⟩).n, 0, _, ?_, lp.trans (.push wp ⟨r :: rs, s.cells, true⟩), wp.push _, lp.n, AHeap.get_push_eq, hl, .inl rfl, hrd⟩
    have e0 : (h.push ⟨[], s.cells, true⟩).rowsOf (.slice (some ⟨h.n, 0, some s.cells⟩) 0 1) = some [] := by rw [get_rowsOf AHeap.get_push_eq (by simp)]; rfl
    have e1 : decide (1 ≤ 0 + (r :: rs).length) = true := decide_eq_true (by simp)
    unfold AHeap.app
    dsimp only
    rw [e0]
    dsimp only
    rw [beq_self_eq_true, cond_true, e1]
    simp only [List.nil_append, Nat.zero_add, hl]
    rfl
structure OwI (s : Sh) (h0 : AHeap) (l : Nat) (xs : List s.T) (rows0 : List (List Value)) (i : Nat) (h : AHeap) (rows : List (List Value)) (idss : List (List Nat)) : Prop where
  hi : i ≤ xs.length
  wf0 : h0.wf
  wf : h.wf
  le : h0.Le h
  new : h0.n ≤ l
  get : h.get l = some ⟨rows, s.cells, true⟩
  len0 : rows0.length = xs.length
  len : rows.length = xs.length
  il : idss.length = i
  fr : Fresh h0.n h.n (l :: idss.flatten)
  rd0 : ∀ (j : Nat) (y : s.T) (row : List Value), xs[j]? = some y → rows0[j]? = some row → s.rd h0 y row
  done : ∀ (j : Nat) (y : s.T) (row : List Value) (js : List Nat), xs[j]? = some y → rows[j]? = some row → idss[j]? = some js → s.rn h y row js
  rest : ∀ j, i ≤ j → rows[j]? = rows0[j]?
theorem OwI.start {s : Sh} {h0 h : AHeap} {xs : List s.T} {l c : Nat} {rows : List (List Value)} (hw : h0.wf) (C : Cpy s h0 h xs l c rows) : OwI s h0 l xs rows 0 h rows [] :=
  ⟨Nat.zero_le _, hw, C.wf, C.le, C.new, C.get, C.len, C.len, rfl, ⟨by simp, fun z hz => by obtain rfl : z = l := (by simpa using hz); exact ⟨C.new, C.wf.lt C.get⟩⟩, C.rd, fun j y row js _ _ h => (by cases h), fun _ _ => rfl⟩
theorem fresh_add {a b c l : Nat} {i j : List Nat} (x : Fresh a b (l :: i)) (y : Fresh b c j) (hbc : b ≤ c) (hab : a ≤ b) : Fresh a c (l :: (i ++ j)) := x.append hab hbc y
theorem OwI.step {s : Sh} {h0 : AHeap} {l : Nat} {xs : List s.T} {rows0 : List (List Value)} {i : Nat} {h h1 : AHeap} {rows : List (List Value)} {idss : List (List Nat)} {y : s.T} {cs : List Value} {js : List Nat}
    (I : OwI s h0 l xs rows0 i h rows idss) (hy : xs[i]? = some y) (le : h.Le h1) (wf : h1.wf) (rn : s.rn h1 y cs js) (fj : Fresh h.n h1.n js) :
    OwI s h0 l xs rows0 (i + 1) (h1.put l (some ⟨rows.set i cs, s.cells, true⟩)) (rows.set i cs) (idss ++ [js]) := by
  have hil : i < xs.length := (List.getElem?_eq_some_iff.1 hy).1
  have hg := le.get _ _ I.get
  have hll := I.wf.lt I.get
  have ndl := List.nodup_cons.1 I.fr.nd
  have keep : ∀ z o, z ≠ l → h1.get z = some o → (h1.put l (some ⟨rows.set i cs, s.cells, true⟩)).get z = some o := fun z o hz ho => by rw [AHeap.get_put_ne hz]; exact ho
  have lenI := I.len
  have ilI := I.il
  refine ⟨hil, I.wf0, wf.put (wf.lt hg) _, (I.le.trans le).put (I.wf0 l I.new) _, I.new, AHeap.get_put_eq, I.len0, by rw [List.length_set]; exact I.len, by rw [List.length_append, I.il]; rfl, ?_, I.rd0, ?_, fun j hj => ?_⟩
  · rw [List.flatten_append, List.flatten_singleton]
    exact fresh_add I.fr fj le.n (by have := I.new; omega)
  · intro j z row q h1' h2 h3
    rcases getElem?_snoc h3 with ⟨hj, h3⟩ | ⟨hj, rfl⟩
    · rw [List.getElem?_set, if_neg (by omega)] at h2
      exact ((I.done j z row q h1' h2 h3).le le).keep (fun w hw' o => keep w o (fun e => ndl.1 (List.mem_flatten.2 ⟨q, List.mem_of_getElem? h3, e ▸ hw'⟩)))
    · rw [I.il] at hj
      subst hj
      rw [List.getElem?_set, if_pos rfl, if_pos (by omega)] at h2
      cases h2
      rw [hy] at h1'; cases h1'
      exact rn.keep (fun w hw' o => keep w o (fun e => by have := fj.bd w hw'; omega))
  · rw [List.getElem?_set, if_neg (by omega)]
    exact I.rest j (by omega)
theorem OwI.row {s : Sh} {h0 : AHeap} {l : Nat} {xs : List s.T} {rows0 : List (List Value)} {i : Nat} {h : AHeap} {rows : List (List Value)} {idss : List (List Nat)} {y : s.T}
    (I : OwI s h0 l xs rows0 i h rows idss) (hy : xs[i]? = some y) : ∃ row, rows[i]? = some row ∧ s.rd h0 y row ∧ h.ld l i 0 s.cells = some row := by
  have hil : i < xs.length := (List.getElem?_eq_some_iff.1 hy).1
  have hr : rows[i]? = some (rows[i]'(by rw [I.len]; exact hil)) := List.getElem?_eq_getElem _
  have rd := I.rd0 i y _ hy (by rw [← I.rest i (Nat.le_refl _)]; exact hr)
  refine ⟨_, hr, rd, ?_⟩
  have hc := Sh.rd_len rd
  unfold AHeap.ld
  rw [I.get]
  dsimp only
  rw [hr]
  dsimp only
  rw [decide_eq_true (by omega), cond_true, List.drop_zero, List.take_of_length_le (by omega)]
theorem OwI.sn {s : Sh} {h0 : AHeap} {l : Nat} {xs : List s.T} {rows0 : List (List Value)} {h : AHeap} {rows : List (List Value)} {idss : List (List Nat)} {c : Nat}
    (I : OwI s h0 l xs rows0 xs.length h rows idss) : Sn h s xs (.slice (some ⟨l, 0, some s.cells⟩) xs.length c) (l :: idss.flatten) :=
  ⟨_, _, c, rfl, rfl, .inr ⟨l, 0, rows, idss, rfl, I.get, by rw [I.len]; omega, I.il, rfl, fun i x row js h1 h2 h3 => I.done i x row js h1 (by rw [Nat.zero_add] at h2; exact h2) h3⟩⟩
theorem wr_field {h : AHeap} {l i k z : Nat} {rows : List (List Value)} {row vs : List Value} (hg : h.get l = some ⟨rows, z, true⟩) (hr : rows[i]? = some row) (hk : k + vs.length ≤ row.length) : h.wr l i k vs = some (h.put l (some ⟨rows.set i (setRange row k vs), z, true⟩)) := by
  unfold AHeap.wr
  rw [hg]
  dsimp only
  rw [hr]
  simp [hk]
end Go.Dat
end
section
namespace Go.Dat
open Go.Abs
structure LX (α : Type) where
  a : Option Addr
  c : Nat
  xs : List α
  ids : List Nat
def Dj (A : List (List Nat)) : Prop := ∀ (i j : Nat) (a b : List Nat), i ≠ j → A[i]? = some a → A[j]? = some b → ∀ z ∈ a, z ∉ b
theorem Dj.set {A : List (List Nat)} (h : Dj A) {k m : Nat} {old new : List Nat} (hk : A[k]? = some old) (hn : ∀ z ∈ new, m ≤ z ∨ z ∈ old) (lt : ∀ a ∈ A, ∀ z ∈ a, z < m) : Dj (A.set k new) := by
  have hkl := (List.getElem?_eq_some_iff.1 hk).1
  have key : ∀ (j : Nat) (b : List Nat), j ≠ k → A[j]? = some b → ∀ z ∈ new, z ∉ b := fun j b hj hb z hz hzb => by
    rcases hn z hz with h1 | h1
    · have := lt b (List.mem_of_getElem? hb) z hzb; omega
    · exact h k j old b (fun e => hj e.symm) hk hb z h1 hzb
  intro i j a b hij ha hb z hza hzb
  rw [List.getElem?_set] at ha hb
  by_cases hi : k = i
  · rw [if_pos hi, if_pos (by omega)] at ha
    rw [if_neg (by omega)] at hb
    cases ha
    exact key j b (by omega) hb z hza hzb
  · rw [if_neg hi] at ha
    by_cases hj : k = j
    · rw [if_pos hj, if_pos (by omega)] at hb
      cases hb
      exact key i a (by omega) ha z hzb hza
    · rw [if_neg hj] at hb
      exact h i j a b hij ha hb z hza hzb
structure Wk where
  id : Int
  view : Int
  chg : Bool
  top : Int
  votes : LX voteSh.T
  changes : LX changeSh.T
  nk : Int
  nf : Int
  nv : Int
  nq : Int
  nop : ByteArray
  nch : LX changeSh.T
  log : LX Sh.str.T
  says : LX saySh.T
@[reducible] def Wk.row (w : Wk) : List Value := [.int .i64 w.id, .int .i64 w.view, .bool w.chg, .int .i64 w.top, .slice w.votes.a w.votes.xs.length w.votes.c, .slice w.changes.a w.changes.xs.length w.changes.c, .int .i64 w.nk, .int .i64 w.nf, .int .i64 w.nv, .int .i64 w.nq, .string w.nop, .slice w.nch.a w.nch.xs.length w.nch.c, .slice w.log.a w.log.xs.length w.log.c, .slice w.says.a w.says.xs.length w.says.c]
def Wk.lists (w : Wk) (l : Nat) : List (List Nat) := [[l], w.votes.ids, w.changes.ids, w.nch.ids, w.log.ids, w.says.ids]
abbrev LXB (s : Sh) (n0 : Nat) (g : AHeap) (x : LX s.T) : Prop := SoB s (E0 n0) g x.a x.xs.length x.c x.xs x.ids
abbrev LXN (s : Sh) (n0 : Nat) (g : AHeap) (x : LX s.T) : Prop := Sn g s x.xs (.slice x.a x.xs.length x.c) x.ids ∧ Fresh n0 g.n x.ids
structure WkOk (n0 : Nat) (l : Nat) (g : AHeap) (w : Wk) : Prop where
  wf : g.wf
  obj : g.get l = some ⟨[w.row], 14, true⟩
  lo : n0 ≤ l
  V : LXB voteSh n0 g w.votes
  C : LXB changeSh n0 g w.changes
  N : LXN changeSh n0 g w.nch
  L : LXB Sh.str n0 g w.log
  S : LXB saySh n0 g w.says
  dj : Dj (w.lists l)
theorem LXB.kp {s : Sh} {n0 : Nat} {g g' : AHeap} {x : LX s.T} {J : List Nat} (B : LXB s n0 g x) (k : Kp J g g') (wf : g'.wf) (hJ : ∀ z ∈ x.ids, z ∉ J) : LXB s n0 g' x := SoB.kp B k wf hJ
theorem LXN.kp {s : Sh} {n0 : Nat} {g g' : AHeap} {x : LX s.T} {J : List Nat} (B : LXN s n0 g x) (k : Kp J g g') (hJ : ∀ z ∈ x.ids, z ∉ J) : LXN s n0 g' x := ⟨B.1.kp k hJ, B.2.widen (Nat.le_refl _) k.n⟩
theorem kp_put {g : AHeap} {y : Nat} (o' : Option AObj) : Kp [y] g (g.put y o') := ⟨Nat.le_refl _, fun z w hz hw => by show (g.put y o').get z = some w; rw [AHeap.get_put_ne (by simpa using hz)]; exact hw⟩
theorem WkOk.lt {n0 l : Nat} {g : AHeap} {w : Wk} (W : WkOk n0 l g w) : ∀ a ∈ w.lists l, ∀ z ∈ a, z < g.n := by
  intro a ha z hz
  simp only [Wk.lists, List.mem_cons, List.not_mem_nil, or_false] at ha
  rcases ha with rfl | rfl | rfl | rfl | rfl | rfl
  · simp only [List.mem_cons, List.not_mem_nil, or_false] at hz
    subst hz; exact W.wf.lt W.obj
  · exact (W.V.fr.bd z hz).2
  · exact (W.C.fr.bd z hz).2
  · exact (W.N.2.bd z hz).2
  · exact (W.L.fr.bd z hz).2
  · exact (W.S.fr.bd z hz).2
theorem WkOk.upd {n0 l : Nat} {g' : AHeap} (w' : Wk) (lo : n0 ≤ l) (hl : l < g'.n) (wf : g'.wf)
    (V : LXB voteSh n0 g' w'.votes) (C : LXB changeSh n0 g' w'.changes) (N : LXN changeSh n0 g' w'.nch) (L : LXB Sh.str n0 g' w'.log) (S : LXB saySh n0 g' w'.says) (dj : Dj (w'.lists l)) : WkOk n0 l (g'.put l (some ⟨[w'.row], 14, true⟩)) w' := by
  have k := kp_put (g := g') (y := l) (some ⟨[w'.row], 14, true⟩)
  have wp : (g'.put l (some ⟨[w'.row], 14, true⟩)).wf := wf.put hl _
  have nl : ∀ (j : Nat) (b : List Nat), j ≠ 0 → (w'.lists l)[j]? = some b → ∀ z ∈ b, z ∉ [l] := fun j b hj hb z hz hz2 => dj j 0 b [l] hj hb rfl z hz hz2
  exact ⟨wp, AHeap.get_put_eq, lo, V.kp k wp (nl 1 _ (by decide) rfl), C.kp k wp (nl 2 _ (by decide) rfl), N.kp k (nl 3 _ (by decide) rfl), L.kp k wp (nl 4 _ (by decide) rfl), S.kp k wp (nl 5 _ (by decide) rfl), dj⟩
theorem WkOk.get {n0 l : Nat} {g g' : AHeap} {w : Wk} (W : WkOk n0 l g w) {k : Nat} {J : List Nat} (hk : (w.lists l)[k]? = some J) (h0 : k ≠ 0) (kp : Kp J g g') : g'.get l = some ⟨[w.row], 14, true⟩ :=
  kp.get l _ (fun e => W.dj 0 k [l] J (by omega) rfl hk l (by simp) e) W.obj
theorem WkOk.setV {n0 l : Nat} {g g' : AHeap} {w : Wk} (W : WkOk n0 l g w) (V' : LX voteSh.T) (B : LXB voteSh n0 g' V') (k : Kp w.votes.ids g g') (hi : ∀ z ∈ V'.ids, g.n ≤ z ∨ z ∈ w.votes.ids) :
    WkOk n0 l (g'.put l (some ⟨[({ w with votes := V' } : Wk).row], 14, true⟩)) { w with votes := V' } := by
  have nj : ∀ (j : Nat) (b : List Nat), j ≠ 1 → (w.lists l)[j]? = some b → ∀ z ∈ b, z ∉ w.votes.ids := fun j b hj hb z hz hz2 => W.dj j 1 b _ hj hb rfl z hz hz2
  exact WkOk.upd _ W.lo (B.wf.lt (W.get (k := 1) rfl (by decide) k)) B.wf B (W.C.kp k B.wf (nj 2 _ (by decide) rfl)) (W.N.kp k (nj 3 _ (by decide) rfl)) (W.L.kp k B.wf (nj 4 _ (by decide) rfl)) (W.S.kp k B.wf (nj 5 _ (by decide) rfl)) (W.dj.set (k := 1) (m := g.n) (old := w.votes.ids) rfl hi W.lt)
theorem WkOk.setL {n0 l : Nat} {g g' : AHeap} {w : Wk} (W : WkOk n0 l g w) (L' : LX Sh.str.T) (B : LXB Sh.str n0 g' L') (k : Kp w.log.ids g g') (hi : ∀ z ∈ L'.ids, g.n ≤ z ∨ z ∈ w.log.ids) :
    WkOk n0 l (g'.put l (some ⟨[({ w with log := L' } : Wk).row], 14, true⟩)) { w with log := L' } := by
  have nj : ∀ (j : Nat) (b : List Nat), j ≠ 4 → (w.lists l)[j]? = some b → ∀ z ∈ b, z ∉ w.log.ids := fun j b hj hb z hz hz2 => W.dj j 4 b _ hj hb rfl z hz hz2
  exact WkOk.upd _ W.lo (B.wf.lt (W.get (k := 4) rfl (by decide) k)) B.wf (W.V.kp k B.wf (nj 1 _ (by decide) rfl)) (W.C.kp k B.wf (nj 2 _ (by decide) rfl)) (W.N.kp k (nj 3 _ (by decide) rfl)) B (W.S.kp k B.wf (nj 5 _ (by decide) rfl)) (W.dj.set (k := 4) (m := g.n) (old := w.log.ids) rfl hi W.lt)
theorem WkOk.setS {n0 l : Nat} {g g' : AHeap} {w : Wk} (W : WkOk n0 l g w) (S' : LX saySh.T) (B : LXB saySh n0 g' S') (k : Kp w.says.ids g g') (hi : ∀ z ∈ S'.ids, g.n ≤ z ∨ z ∈ w.says.ids) :
    WkOk n0 l (g'.put l (some ⟨[({ w with says := S' } : Wk).row], 14, true⟩)) { w with says := S' } := by
  have nj : ∀ (j : Nat) (b : List Nat), j ≠ 5 → (w.lists l)[j]? = some b → ∀ z ∈ b, z ∉ w.says.ids := fun j b hj hb z hz hz2 => W.dj j 5 b _ hj hb rfl z hz hz2
  exact WkOk.upd _ W.lo (B.wf.lt (W.get (k := 5) rfl (by decide) k)) B.wf (W.V.kp k B.wf (nj 1 _ (by decide) rfl)) (W.C.kp k B.wf (nj 2 _ (by decide) rfl)) (W.N.kp k (nj 3 _ (by decide) rfl)) (W.L.kp k B.wf (nj 4 _ (by decide) rfl)) B (W.dj.set (k := 5) (m := g.n) (old := w.says.ids) rfl hi W.lt)
theorem WkOk.setC {n0 l : Nat} {g g' : AHeap} {w : Wk} (W : WkOk n0 l g w) (C' : LX changeSh.T) (B : LXB changeSh n0 g' C') (k : Kp w.changes.ids g g') (hi : ∀ z ∈ C'.ids, g.n ≤ z ∨ z ∈ w.changes.ids) :
    WkOk n0 l (g'.put l (some ⟨[({ w with changes := C' } : Wk).row], 14, true⟩)) { w with changes := C' } := by
  have nj : ∀ (j : Nat) (b : List Nat), j ≠ 2 → (w.lists l)[j]? = some b → ∀ z ∈ b, z ∉ w.changes.ids := fun j b hj hb z hz hz2 => W.dj j 2 b _ hj hb rfl z hz hz2
  exact WkOk.upd _ W.lo (B.wf.lt (W.get (k := 2) rfl (by decide) k)) B.wf (W.V.kp k B.wf (nj 1 _ (by decide) rfl)) B (W.N.kp k (nj 3 _ (by decide) rfl)) (W.L.kp k B.wf (nj 4 _ (by decide) rfl)) (W.S.kp k B.wf (nj 5 _ (by decide) rfl)) (W.dj.set (k := 2) (m := g.n) (old := w.changes.ids) rfl hi W.lt)
theorem WkOk.setN {n0 l : Nat} {g : AHeap} {w : Wk} (W : WkOk n0 l g w) (nk nf nv nq : Int) (nop : ByteArray) (N' : LX changeSh.T) (B : Sn g changeSh N'.xs (.slice N'.a N'.xs.length N'.c) N'.ids) {m : Nat} (hm : n0 ≤ m) (F : Fresh m g.n N'.ids) (hl : ∀ a ∈ w.lists l, ∀ z ∈ a, z < m) :
    WkOk n0 l (g.put l (some ⟨[({ w with nk := nk, nf := nf, nv := nv, nq := nq, nop := nop, nch := N' } : Wk).row], 14, true⟩)) { w with nk := nk, nf := nf, nv := nv, nq := nq, nop := nop, nch := N' } :=
  WkOk.upd _ W.lo (W.wf.lt W.obj) W.wf W.V W.C ⟨B, F.widen hm (Nat.le_refl _)⟩ W.L W.S (W.dj.set (k := 3) (m := m) (old := w.nch.ids) rfl (fun z hz => .inl (F.bd z hz).1) hl)
theorem SoB.base {s : Sh} {n0 : Nat} {h0 h : AHeap} {a : Option Addr} {n c : Nat} {xs : List s.T} {ids : List Nat} (B : SoB s h0 h a n c xs ids) (hn : n0 ≤ h0.n) : SoB s (E0 n0) h a n c xs ids :=
  ⟨E0.le (Nat.le_trans hn B.le.n), B.wf, E0.wf, B.len, B.fr.widen hn (Nat.le_refl _), B.at_⟩
theorem WkOk.num {n0 l : Nat} {g : AHeap} {w : Wk} (W : WkOk n0 l g w) (view : Int) (chg : Bool) (top : Int) :
    WkOk n0 l (g.put l (some ⟨[({ w with view := view, chg := chg, top := top } : Wk).row], 14, true⟩)) { w with view := view, chg := chg, top := top } :=
  WkOk.upd _ W.lo (W.wf.lt W.obj) W.wf W.V W.C W.N W.L W.S W.dj
theorem WkOk.grow {n0 l : Nat} {g g' : AHeap} {w : Wk} (W : WkOk n0 l g w) (le : g.Le g') (wf : g'.wf) : WkOk n0 l g' w :=
  ⟨wf, le.get _ _ W.obj, W.lo, W.V.kp (J := []) (.of_le le) wf (by simp), W.C.kp (J := []) (.of_le le) wf (by simp), W.N.kp (J := []) (.of_le le) (by simp), W.L.kp (J := []) (.of_le le) wf (by simp), W.S.kp (J := []) (.of_le le) wf (by simp), W.dj⟩
theorem WkOk.ld {n0 l : Nat} {g : AHeap} {w : Wk} (W : WkOk n0 l g w) {i n : Nat} {vs : List Value} (h : (w.row.drop i).take n = vs) (hn : i + n ≤ 14) : g.ld l 0 i n = some vs := by
  unfold AHeap.ld
  rw [W.obj]
  dsimp only
  rw [show (([w.row] : List (List Value))[0]? : Option (List Value)) = some w.row from rfl]
  dsimp only
  rw [show w.row.length = 14 from rfl, decide_eq_true hn, cond_true, h]
theorem wk_wr {g : AHeap} {l : Nat} {w : Wk} (hg : g.get l = some ⟨[w.row], 14, true⟩) {i : Nat} {vs : List Value} {row : List Value} (h : setRange w.row i vs = row) (hn : i + vs.length ≤ 14) : g.wr l 0 i vs = some (g.put l (some ⟨[row], 14, true⟩)) := by
  rw [wr_field (i := 0) hg rfl (by show i + vs.length ≤ 14; exact hn), h]; rfl
end Go.Dat
end
section
namespace Go.Proofs.YtpgfjadjhliohaaGreat
open Go.Abs Go.Dat
set_option maxRecDepth 100000
set_option maxHeartbeats 8000000
abbrev Q7r := List (List Value)
def Q7l := True ∧ (True ∧ (True ∧ True) ∧ True) ∧ True ∧ True
def Q7m (a : AHeap) (b : Nat) (c : Option Addr) (d e : Nat) (f : Q7r) (g : Prop) (h : Nat) (i : Prop) := rowsV (AHeap.push a (AObj.mk List.nil b true)) (Value.slice c d e) = some f ∧ g ∧ h ≤ 140737488355328 ∧ i
def Q7n (a : AHeap) (b : Nat) (c : Q7r) (d : Option Addr) (e f : Nat) (g : AHeap) (h : Prop) := AHeap.app (AHeap.push a (AObj.mk List.nil b true)) (Value.slice (some (Addr.mk (AHeap.n a) 0 (some b))) 0 1) c b = some (Prod.mk (Value.slice d e f) g) ∧ h
def Q7o (a : Q7r) (b : Nat) := (0 + List.length a) * b
def Q7p (a : Q7r) := List.all a (fun (row : List Value) =>
  decide (List.length row = (1 : Nat)) &&
    List.all row fun (v : Value) =>
      match v with
      | Value.agg cells => false
      | Value.tuple cells => false
      | Value.complex k re im => false
      | Value.chan r => false
      | x => true)
def Q7q := Value.slice none 0 0
theorem cloneInt_spec (h : AHeap) (hw : h.wf) (a : Option Addr) (c : Nat) (xs : List (Sh.T Sh.int)) (hx : Sl h Sh.int xs (.slice a xs.length c)) (hn : xs.length ≤ 1048576) :
    ∃ v h', ACall Tryz.prog 167 [.slice a xs.length c] h v h' ∧ ((xs = [] ∧ v = .slice none 0 0 ∧ h' = h) ∨ ∃ l c' rows, v = .slice (some ⟨l, 0, some (Sh.cells Sh.int)⟩) xs.length c' ∧ Cpy Sh.int h h' xs l c' rows) := by
  refine acall_q fun Q HQ => ?_
  refine acall_vc (fun _ => false) (fun _ => []) (fun _ => .none) mixed Tryz.func167 rfl rfl rfl (Nat.le_of_ble_eq_true rfl) (by (refine vc_mp (by kernel_rfl : (Q7l) = _) ?_; delta Q7l); simp only [and_self]) ?_
  (refine vc_mp (by kernel_rfl : (bs (Option.isNone a) (Q Q7q h) (∃ (xs_1 : List (List Value)), Q7m h 1 a (List.length xs) c xs_1 (Q7p xs_1 = true) (Q7o xs_1 8) (∃ (a : Option Addr) (n c : Nat) (h' : AHeap), Q7n h 1 xs_1 a n c h' (Q (Value.slice a n c) h')))) = _) ?_; delta Q7m Q7n Q7o Q7p Q7q)
  refine bs_of (fun e => ?_) (fun e => ?_)
  · rcases hx.row.1 with ⟨rfl, hz, rfl⟩ | ⟨l, r, rfl⟩
    · exact HQ _ _ (.inl ⟨List.eq_nil_of_length_eq_zero hz, rfl, rfl⟩)
    · cases e
  · obtain ⟨rows, e1, e2, e3, l, c', h', e4, C⟩ := app_shallow (s := Sh.int) hw hx
    exact ⟨rows, e1, e2, by rw [e3]; omega, _, _, _, h', e4, HQ _ _ (.inr ⟨l, c', rows, rfl, C⟩)⟩
theorem cloneProof_spec (h : AHeap) (hw : h.wf) (a : Option Addr) (c : Nat) (xs : List (Sh.T proofSh)) (hx : Sl h proofSh xs (.slice a xs.length c)) (hn : xs.length ≤ 1048576) :
    ∃ v h', ACall Tryz.prog 166 [.slice a xs.length c] h v h' ∧ ((xs = [] ∧ v = .slice none 0 0 ∧ h' = h) ∨ ∃ l c' rows, v = .slice (some ⟨l, 0, some (Sh.cells proofSh)⟩) xs.length c' ∧ Cpy proofSh h h' xs l c' rows) := by
  refine acall_q fun Q HQ => ?_
  refine acall_vc (fun _ => false) (fun _ => []) (fun _ => .none) mixed Tryz.func166 rfl rfl rfl (Nat.le_of_ble_eq_true rfl) (by (refine vc_mp (by kernel_rfl : (Q7l) = _) ?_; delta Q7l); simp only [and_self]) ?_
  (refine vc_mp (by kernel_rfl : (bs (Option.isNone a) (Q Q7q h) (∃ (xs_1 : List (List Value)), Q7m h 4 a (List.length xs) c xs_1 (List.all xs_1 (fun (row : List Value) =>
  decide (List.length row = (4 : Nat)) &&
    List.all row fun (v : Value) =>
      match v with
      | Value.agg cells => false
      | Value.tuple cells => false
      | Value.complex k re im => false
      | Value.chan r => false
      | x => true) = true) (Q7o xs_1 56) (∃ (a : Option Addr) (n c : Nat) (h' : AHeap), Q7n h 4 xs_1 a n c h' (Q (Value.slice a n c) h')))) = _) ?_; delta Q7m Q7n Q7o Q7q)
  refine bs_of (fun e => ?_) (fun e => ?_)
  · rcases hx.row.1 with ⟨rfl, hz, rfl⟩ | ⟨l, r, rfl⟩
    · exact HQ _ _ (.inl ⟨List.eq_nil_of_length_eq_zero hz, rfl, rfl⟩)
    · cases e
  · obtain ⟨rows, e1, e2, e3, l, c', h', e4, C⟩ := app_shallow (s := proofSh) hw hx
    exact ⟨rows, e1, e2, by rw [e3]; omega, _, _, _, h', e4, HQ _ _ (.inr ⟨l, c', rows, rfl, C⟩)⟩
theorem cloneChange_spec (h : AHeap) (hw : h.wf) (a : Option Addr) (c : Nat) (xs : List (Sh.T changeSh)) (hx : Sl h changeSh xs (.slice a xs.length c)) (hn : xs.length ≤ 1048576) :
    ∃ v h', ACall Tryz.prog 160 [.slice a xs.length c] h v h' ∧ ((xs = [] ∧ v = .slice none 0 0 ∧ h' = h) ∨ ∃ l c' rows, v = .slice (some ⟨l, 0, some (Sh.cells changeSh)⟩) xs.length c' ∧ Cpy changeSh h h' xs l c' rows) := by
  refine acall_q fun Q HQ => ?_
  refine acall_vc (fun _ => false) (fun _ => []) (fun _ => .none) mixed Tryz.func160 rfl rfl rfl (Nat.le_of_ble_eq_true rfl) (by (refine vc_mp (by kernel_rfl : (Q7l) = _) ?_; delta Q7l); simp only [and_self]) ?_
  (refine vc_mp (by kernel_rfl : (bs (Option.isNone a) (Q Q7q h) (∃ (xs_1 : List (List Value)), Q7m h 3 a (List.length xs) c xs_1 (List.all xs_1 (fun (row : List Value) =>
  decide (List.length row = (3 : Nat)) &&
    List.all row fun (v : Value) =>
      match v with
      | Value.agg cells => false
      | Value.tuple cells => false
      | Value.complex k re im => false
      | Value.chan r => false
      | x => true) = true) (Q7o xs_1 40) (∃ (a : Option Addr) (n c : Nat) (h' : AHeap), Q7n h 3 xs_1 a n c h' (Q (Value.slice a n c) h')))) = _) ?_; delta Q7m Q7n Q7o Q7q)
  refine bs_of (fun e => ?_) (fun e => ?_)
  · rcases hx.row.1 with ⟨rfl, hz, rfl⟩ | ⟨l, r, rfl⟩
    · exact HQ _ _ (.inl ⟨List.eq_nil_of_length_eq_zero hz, rfl, rfl⟩)
    · cases e
  · obtain ⟨rows, e1, e2, e3, l, c', h', e4, C⟩ := app_shallow (s := changeSh) hw hx
    exact ⟨rows, e1, e2, by rw [e3]; omega, _, _, _, h', e4, HQ _ _ (.inr ⟨l, c', rows, rfl, C⟩)⟩
theorem cloneVote_spec (h : AHeap) (hw : h.wf) (a : Option Addr) (c : Nat) (xs : List (Sh.T voteSh)) (hx : Sl h voteSh xs (.slice a xs.length c)) (hn : xs.length ≤ 1048576) :
    ∃ v h', ACall Tryz.prog 145 [.slice a xs.length c] h v h' ∧ ((xs = [] ∧ v = .slice none 0 0 ∧ h' = h) ∨ ∃ l c' rows, v = .slice (some ⟨l, 0, some (Sh.cells voteSh)⟩) xs.length c' ∧ Cpy voteSh h h' xs l c' rows) := by
  refine acall_q fun Q HQ => ?_
  refine acall_vc (fun _ => false) (fun _ => []) (fun _ => .none) mixed Tryz.func145 rfl rfl rfl (Nat.le_of_ble_eq_true rfl) (by (refine vc_mp (by kernel_rfl : (Q7l) = _) ?_; delta Q7l); simp only [and_self]) ?_
  (refine vc_mp (by kernel_rfl : (bs (Option.isNone a) (Q Q7q h) (∃ (xs_1 : List (List Value)), Q7m h 5 a (List.length xs) c xs_1 (List.all xs_1 (fun (row : List Value) =>
  decide (List.length row = (5 : Nat)) &&
    List.all row fun (v : Value) =>
      match v with
      | Value.agg cells => false
      | Value.tuple cells => false
      | Value.complex k re im => false
      | Value.chan r => false
      | x => true) = true) (Q7o xs_1 48) (∃ (a : Option Addr) (n c : Nat) (h' : AHeap), Q7n h 5 xs_1 a n c h' (Q (Value.slice a n c) h')))) = _) ?_; delta Q7m Q7n Q7o Q7q)
  refine bs_of (fun e => ?_) (fun e => ?_)
  · rcases hx.row.1 with ⟨rfl, hz, rfl⟩ | ⟨l, r, rfl⟩
    · exact HQ _ _ (.inl ⟨List.eq_nil_of_length_eq_zero hz, rfl, rfl⟩)
    · cases e
  · obtain ⟨rows, e1, e2, e3, l, c', h', e4, C⟩ := app_shallow (s := voteSh) hw hx
    exact ⟨rows, e1, e2, by rw [e3]; omega, _, _, _, h', e4, HQ _ _ (.inr ⟨l, c', rows, rfl, C⟩)⟩
theorem cloneStr_spec (h : AHeap) (hw : h.wf) (a : Option Addr) (c : Nat) (xs : List (Sh.T Sh.str)) (hx : Sl h Sh.str xs (.slice a xs.length c)) (hn : xs.length ≤ 1048576) :
    ∃ v h', ACall Tryz.prog 146 [.slice a xs.length c] h v h' ∧ ((xs = [] ∧ v = .slice none 0 0 ∧ h' = h) ∨ ∃ l c' rows, v = .slice (some ⟨l, 0, some (Sh.cells Sh.str)⟩) xs.length c' ∧ Cpy Sh.str h h' xs l c' rows) := by
  refine acall_q fun Q HQ => ?_
  refine acall_vc (fun _ => false) (fun _ => []) (fun _ => .none) mixed Tryz.func146 rfl rfl rfl (Nat.le_of_ble_eq_true rfl) (by (refine vc_mp (by kernel_rfl : (Q7l) = _) ?_; delta Q7l); simp only [and_self]) ?_
  (refine vc_mp (by kernel_rfl : (bs (Option.isNone a) (Q Q7q h) (∃ (xs_1 : List (List Value)), Q7m h 1 a (List.length xs) c xs_1 (Q7p xs_1 = true) (Q7o xs_1 16) (∃ (a : Option Addr) (n c : Nat) (h' : AHeap), Q7n h 1 xs_1 a n c h' (Q (Value.slice a n c) h')))) = _) ?_; delta Q7m Q7n Q7o Q7p Q7q)
  refine bs_of (fun e => ?_) (fun e => ?_)
  · rcases hx.row.1 with ⟨rfl, hz, rfl⟩ | ⟨l, r, rfl⟩
    · exact HQ _ _ (.inl ⟨List.eq_nil_of_length_eq_zero hz, rfl, rfl⟩)
    · cases e
  · obtain ⟨rows, e1, e2, e3, l, c', h', e4, C⟩ := app_shallow (s := Sh.str) hw hx
    exact ⟨rows, e1, e2, by rw [e3]; omega, _, _, _, h', e4, HQ _ _ (.inr ⟨l, c', rows, rfl, C⟩)⟩
theorem _root_.Go.Dat.Cpy.sn {s : Sh} (hf : s.flat = true) {h0 h : AHeap} {xs : List s.T} {l c : Nat} {rows : List (List Value)} (C : Cpy s h0 h xs l c rows) : Sn h s xs (.slice (some ⟨l, 0, some s.cells⟩) xs.length c) [l] := by
  refine ⟨_, _, c, rfl, rfl, .inr ⟨l, 0, rows, List.replicate xs.length [], rfl, C.get, by rw [C.len]; omega, by simp, by rw [flat_nil], fun i x row js h1 h2 h3 => ?_⟩⟩
  rw [List.eq_of_mem_replicate (List.mem_of_getElem? h3)]
  exact Sh.flat_rn hf (C.rd i x row h1 (by rw [Nat.zero_add] at h2; exact h2))
theorem cloneInt_sn (h : AHeap) (hw : h.wf) (a : Option Addr) (c : Nat) (xs : List Sh.int.T) (hx : Sl h Sh.int xs (.slice a xs.length c)) (hn : xs.length ≤ 1048576) :
    ∃ a' c' h' js, ACall Tryz.prog 167 [.slice a xs.length c] h (.slice a' xs.length c') h' ∧ h.Le h' ∧ h'.wf ∧ Sn h' Sh.int xs (.slice a' xs.length c') js ∧ Fresh h.n h'.n js := by
  obtain ⟨_, g, A, ⟨rfl, rfl, eg⟩ | ⟨l, c', rows, rfl, C⟩⟩ := cloneInt_spec h hw a c xs hx hn
  · rw [eg] at A
    exact ⟨none, 0, h, [], A, .refl _, hw, Sn.nil, .nil⟩
  · exact ⟨_, _, g, [l], A, C.le, C.wf, C.sn rfl, ⟨by simp, fun z hz => by rw [List.mem_singleton.1 hz]; exact ⟨C.new, C.wf.lt C.get⟩⟩⟩
end Go.Proofs.YtpgfjadjhliohaaGreat
end
section
namespace Go.Dat
open Go.Abs
theorem put2 {g : AHeap} {l : Nat} {x y : Option AObj} : (g.put l x).put l y = g.put l y := ah_ext rfl fun z => by
  show (if z = l then y else if z = l then x else g.get z) = if z = l then y else g.get z
  split <;> rfl
def numO (ys : List Int) : AObj := ⟨ys.map fun x => [.int .i64 x], 1, true⟩
theorem num_ld {h : AHeap} {l j : Nat} {ys : List Int} {x : Int} (hx : ys[j]? = some x) : (h.put l (some (numO ys))).ld l (0 + ((j : Nat) : Int).toNat) 0 1 = some [.int .i64 x] := by
  unfold AHeap.ld
  rw [AHeap.get_put_eq]
  unfold numO
  dsimp only
  rw [show 0 + ((j : Nat) : Int).toNat = j by omega, List.getElem?_map, hx]
  rfl
theorem num_wr {h : AHeap} {l j : Nat} {ys : List Int} (v : Int) (hj : j < ys.length) : (h.put l (some (numO ys))).wr l (0 + ((j : Nat) : Int).toNat) 0 [.int .i64 v] = some (h.put l (some (numO (ys.set j v)))) := by
  have hx : ys[j]? = some ys[j] := List.getElem?_eq_getElem hj
  unfold AHeap.wr
  rw [AHeap.get_put_eq]
  unfold numO
  dsimp only
  rw [show 0 + ((j : Nat) : Int).toNat = j by omega, List.getElem?_map, hx]
  simp only [Option.map_some, List.map_set]
  show some _ = some _
  rw [put2]
  rfl
def txtO (ys : List ByteArray) : AObj := ⟨ys.map fun x => [.string x], 1, true⟩
theorem txt_ld {h : AHeap} {l j : Nat} {ys : List ByteArray} {x : ByteArray} (hx : ys[j]? = some x) : (h.put l (some (txtO ys))).ld l (0 + ((j : Nat) : Int).toNat) 0 1 = some [.string x] := by
  unfold AHeap.ld
  rw [AHeap.get_put_eq]
  unfold txtO
  dsimp only
  rw [show 0 + ((j : Nat) : Int).toNat = j by omega, List.getElem?_map, hx]
  rfl
theorem txt_wr {h : AHeap} {l j : Nat} {ys : List ByteArray} (v : ByteArray) (hj : j < ys.length) : (h.put l (some (txtO ys))).wr l (0 + ((j : Nat) : Int).toNat) 0 [.string v] = some (h.put l (some (txtO (ys.set j v)))) := by
  have hx : ys[j]? = some ys[j] := List.getElem?_eq_getElem hj
  unfold AHeap.wr
  rw [AHeap.get_put_eq]
  unfold txtO
  dsimp only
  rw [show 0 + ((j : Nat) : Int).toNat = j by omega, List.getElem?_map, hx]
  simp only [Option.map_some, List.map_set]
  show some _ = some _
  rw [put2]
  rfl
theorem swap_perm {α : Type} : ∀ {ys : List α} {j : Nat} {a b : α}, 1 ≤ j → ys[j - 1]? = some a → ys[j]? = some b → ((ys.set j a).set (j - 1) b).Perm ys
  | [], _, _, _, _, _, h => by simp at h
  | [x], 1, a, b, _, _, h => by simp at h
  | x :: y :: zs, 1, a, b, _, h1, h2 => by
    simp at h1 h2
    subst h1; subst h2
    exact List.Perm.swap _ _ _
  | x :: xs, j + 2, a, b, _, h1, h2 => by
    have ih := swap_perm (ys := xs) (j := j + 1) (a := a) (b := b) (by omega) (by simpa using h1) (by simpa using h2)
    exact ih.cons x
structure SortS (T : Type) (lt : T → T → Bool) where
  OI : List T → Nat → Prop
  OJ : List T → Nat → Nat → Prop
  start : ∀ ys, OI ys 1
  i2j : ∀ ys i, OI ys i → OJ ys i i
  step : ∀ ys i j a b, OJ ys i j → 1 ≤ j → j ≤ i → ys[j - 1]? = some a → ys[j]? = some b → lt b a = true → OJ ((ys.set j a).set (j - 1) b) i (j - 1)
  fin0 : ∀ ys i, OJ ys i 0 → OI ys (i + 1)
  fin : ∀ ys i j a b, OJ ys i j → 1 ≤ j → j ≤ i → ys[j - 1]? = some a → ys[j]? = some b → lt b a = false → OI ys (i + 1)
def sortStr : SortS ByteArray (fun a b => Op.bytesLess a.toList b.toList) := ⟨fun _ _ => True, fun _ _ _ => True, fun _ => trivial, fun _ _ _ => trivial, fun _ _ _ _ _ _ _ _ _ _ _ => trivial, fun _ _ _ => trivial, fun _ _ _ _ _ _ _ _ _ _ _ => trivial⟩
def OrdJ (ys : List Int) (i j : Nat) : Prop := ∀ (p q : Nat) (a b : Int), p < q → q ≤ i → q ≠ j → ys[p]? = some a → ys[q]? = some b → a ≤ b
def OrdI (ys : List Int) (i : Nat) : Prop := ∀ (p q : Nat) (a b : Int), p < q → q < i → ys[p]? = some a → ys[q]? = some b → a ≤ b
theorem set2_get {ys : List Int} {j : Nat} {a b : Int} (hj : 1 ≤ j) (h1 : ys[j - 1]? = some a) (h2 : ys[j]? = some b) (p : Nat) : ((ys.set j a).set (j - 1) b)[p]? = if p = j - 1 then some b else if p = j then some a else ys[p]? := by
  have hl : j < ys.length := (List.getElem?_eq_some_iff.1 h2).1
  rw [List.getElem?_set, List.getElem?_set, List.length_set]
  by_cases c1 : p = j - 1
  · rw [if_pos c1.symm, if_pos c1, if_pos (by omega)]
  · rw [if_neg (fun e => c1 e.symm), if_neg c1]
    by_cases c2 : p = j
    · rw [if_pos c2.symm, if_pos c2, if_pos (by omega)]
    · rw [if_neg (fun e => c2 e.symm), if_neg c2]
def sortInt : SortS Int (fun a b => decide (a < b)) where
  OI := OrdI
  OJ := OrdJ
  start := fun ys p q a b h1 h2 => by omega
  i2j := fun ys i H p q a b h1 h2 h3 => H p q a b h1 (by omega)
  step := fun ys i j a b H h1 h2 ha hb hlt p q x y k1 k2 k3 hx hy => by
    have hlt' : b < a := by simpa using hlt
    rw [set2_get h1 ha hb] at hx hy
    rw [if_neg k3] at hy
    by_cases c1 : q = j
    · rw [if_pos c1] at hy
      cases hy
      by_cases c2 : p = j - 1
      · rw [if_pos c2] at hx; cases hx; omega
      · rw [if_neg c2, if_neg (by omega)] at hx
        exact H p (j - 1) x a (by omega) (by omega) (by omega) hx ha
    · rw [if_neg c1] at hy
      by_cases c2 : p = j - 1
      · rw [if_pos c2] at hx; cases hx
        by_cases c3 : j < q
        · exact H j q _ y c3 k2 c1 hb hy
        · omega
      · rw [if_neg c2] at hx
        by_cases c3 : p = j
        · rw [if_pos c3] at hx; cases hx
          exact H (j - 1) q _ y (by omega) k2 c1 ha hy
        · rw [if_neg c3] at hx
          exact H p q x y k1 k2 c1 hx hy
  fin0 := fun ys i H p q a b h1 h2 => H p q a b h1 (by omega) (by omega)
  fin := fun ys i j a b H h1 h2 ha hb hlt p q x y k1 k2 hx hy => by
    have hlt' : a ≤ b := by simpa using hlt
    by_cases c1 : q = j
    · subst c1
      rw [hb] at hy; cases hy
      by_cases c2 : p = q - 1
      · subst c2; rw [ha] at hx; cases hx; exact hlt'
      · exact Int.le_trans (H p (q - 1) x a (by omega) (by omega) (by omega) hx ha) hlt'
    · exact H p q x y k1 (by omega) c1 hx hy
theorem ord_asc {ys : List Int} (H : OrdI ys ys.length) (hd : ys.Nodup) : ys.Pairwise (· < ·) := by
  rw [List.pairwise_iff_getElem]
  intro i j hi hj hij
  have h1 := H i j ys[i] ys[j] hij (by omega) (List.getElem?_eq_getElem hi) (List.getElem?_eq_getElem hj)
  have h2 := (List.pairwise_iff_getElem.1 hd) i j hi hj hij
  omega
structure CmpI (xs : List ByteArray) (k0 k2 k : Nat) (ys : List ByteArray) : Prop where
  len : ys.length = xs.length
  h0 : k0 ≤ k
  hk : k + 1 ≤ k0 + k2
  h2 : 1 ≤ k2
  hn : k0 + k2 ≤ xs.length
  same : ∀ p, k0 + k2 ≤ p + 1 → ys[p]? = xs[p]?
  mem : ∀ t, t ∈ ys.take k ↔ t ∈ xs.take (k0 + k2)
theorem take_succ_mem {α : Type} {xs : List α} {n : Nat} {x t : α} (h : xs[n]? = some x) : t ∈ xs.take (n + 1) ↔ t ∈ xs.take n ∨ t = x := by
  have hl := (List.getElem?_eq_some_iff.1 h).1
  have hx : xs[n] = x := by rw [List.getElem?_eq_getElem hl] at h; cases h; rfl
  rw [List.take_succ_eq_append_getElem hl, List.mem_append, List.mem_singleton, hx]
theorem mem_take_get {α : Type} {xs : List α} {n m : Nat} {x : α} (h : xs[n]? = some x) (hm : n < m) : x ∈ xs.take m := List.mem_of_getElem? (show (xs.take m)[n]? = some x by rw [List.getElem?_take, if_pos hm]; exact h)
theorem CmpI.start {xs : List ByteArray} {k0 : Nat} {x : ByteArray} (h1 : 1 ≤ k0) (ha : xs[k0 - 1]? = some x) (hb : xs[k0]? = some x) : CmpI xs k0 1 k0 xs := by
  have hl := (List.getElem?_eq_some_iff.1 hb).1
  refine ⟨rfl, Nat.le_refl _, Nat.le_refl _, Nat.le_refl _, by omega, fun _ _ => rfl, fun t => ?_⟩
  rw [take_succ_mem hb]
  exact ⟨.inl, fun h => h.elim id fun e => by rw [e]; exact mem_take_get ha (by omega)⟩
theorem CmpI.same' {xs ys : List ByteArray} {k0 k2 k : Nat} {x : ByteArray} (I : CmpI xs k0 k2 k ys) (ha : xs[k0 + k2 - 1]? = some x) (hb : xs[k0 + k2]? = some x) : CmpI xs k0 (k2 + 1) k ys := by
  have hl := (List.getElem?_eq_some_iff.1 hb).1
  have h2 := I.h2
  have hk := I.hk
  refine ⟨I.len, I.h0, by omega, by omega, by omega, fun p hp => I.same p (by omega), fun t => ?_⟩
  rw [show k0 + (k2 + 1) = k0 + k2 + 1 by omega, take_succ_mem hb, I.mem]
  exact ⟨.inl, fun h => h.elim id fun e => by rw [e]; exact mem_take_get ha (by omega)⟩
theorem CmpI.step {xs ys : List ByteArray} {k0 k2 k : Nat} {x : ByteArray} (I : CmpI xs k0 k2 k ys) (hb : xs[k0 + k2]? = some x) : CmpI xs k0 (k2 + 1) (k + 1) (ys.set k x) := by
  have hl := (List.getElem?_eq_some_iff.1 hb).1
  have h2 := I.h2
  have hk := I.hk
  have h0 := I.h0
  have hlen := I.len
  refine ⟨by rw [List.length_set]; exact I.len, by omega, by omega, by omega, by omega, fun p hp => ?_, fun t => ?_⟩
  · rw [List.getElem?_set, if_neg (by omega)]
    exact I.same p (by omega)
  · have hs : (ys.set k x)[k]? = some x := by rw [List.getElem?_set, if_pos rfl, if_pos (by omega)]
    rw [show k0 + (k2 + 1) = k0 + k2 + 1 by omega, take_succ_mem hb, take_succ_mem hs, ← I.mem, List.take_set_of_le (Nat.le_refl _)]
end Go.Dat
end
section
namespace Go.Dat
open Go.Abs
abbrev Vt : Type := Int × Int × Int × ByteArray × Int
def castsL (l : List voteSh.T) (k v q : Int) (op : ByteArray) : List Int := (show List Vt from l).filterMap fun x => if x.1 = k ∧ x.2.1 = v ∧ x.2.2.1 = q ∧ x.2.2.2.1 = op then some x.2.2.2.2 else none
def opsL (l : List voteSh.T) (k v q : Int) : List ByteArray := (show List Vt from l).filterMap fun x => if x.1 = k ∧ x.2.1 = v ∧ x.2.2.1 = q then some x.2.2.2.1 else none
def fromsL (l : List voteSh.T) (k v q : Int) : List Int := (show List Vt from l).filterMap fun x => if x.1 = k ∧ x.2.1 = v ∧ x.2.2.1 = q then some x.2.2.2.2 else none
theorem mem_castsL {l : List voteSh.T} {k v q f : Int} {op : ByteArray} : f ∈ castsL l k v q op ↔ (k, v, q, op, f) ∈ l := by
  unfold castsL
  rw [List.mem_filterMap]
  constructor
  · rintro ⟨⟨k', v', q', op', f'⟩, hx, e⟩
    dsimp only at e
    split at e
    · rename_i h
      obtain ⟨rfl, rfl, rfl, rfl⟩ := h
      cases e; exact hx
    · cases e
  · intro h
    exact ⟨_, h, by dsimp only; rw [if_pos ⟨rfl, rfl, rfl, rfl⟩]⟩
theorem mem_opsL {l : List voteSh.T} {k v q : Int} {op : ByteArray} : op ∈ opsL l k v q ↔ ∃ f, (k, v, q, op, f) ∈ l := by
  unfold opsL
  rw [List.mem_filterMap]
  constructor
  · rintro ⟨⟨k', v', q', op', f'⟩, hx, e⟩
    dsimp only at e
    split at e
    · rename_i h
      obtain ⟨rfl, rfl, rfl⟩ := h
      cases e; exact ⟨f', hx⟩
    · cases e
  · rintro ⟨f, h⟩
    exact ⟨_, h, by dsimp only; rw [if_pos ⟨rfl, rfl, rfl⟩]⟩
theorem nodup_froms {l : List voteSh.T} (H : VotsOk l) (k v q : Int) : (fromsL l k v q).Nodup := by
  unfold fromsL List.Nodup
  rw [List.pairwise_filterMap, List.pairwise_iff_getElem]
  intro i j hi hj hij a ha b hb e
  have h1 : l[i]? = some (l[i]'hi) := List.getElem?_eq_getElem hi
  have h2 : l[j]? = some (l[j]'hj) := List.getElem?_eq_getElem hj
  obtain ⟨⟨k1, v1, q1, o1, f1⟩, e1⟩ : ∃ y : Vt, l[i]'hi = y := ⟨_, rfl⟩
  obtain ⟨⟨k2, v2, q2, o2, f2⟩, e2⟩ : ∃ y : Vt, l[j]'hj = y := ⟨_, rfl⟩
  change (if (l[i]'hi).1 = k ∧ _ then _ else _) = _ at ha
  change (if (l[j]'hj).1 = k ∧ _ then _ else _) = _ at hb
  rw [e1] at ha h1
  rw [e2] at hb h2
  split at ha
  · rename_i c1
    split at hb
    · rename_i c2
      dsimp only at c1 c2 ha hb
      obtain ⟨rfl, rfl, rfl⟩ := c1
      obtain ⟨rfl, rfl, rfl⟩ := c2
      cases ha; cases hb; subst e
      have := vots_at H h1 h2
      omega
    · cases hb
  · cases ha
theorem casts_sub (l : List voteSh.T) (k v q : Int) (op : ByteArray) : (castsL l k v q op).Sublist (fromsL l k v q) := by
  unfold castsL fromsL
  induction (show List Vt from l) with
  | nil => exact .slnil
  | cons x xs ih =>
    rw [List.filterMap_cons, List.filterMap_cons]
    by_cases c1 : x.1 = k ∧ x.2.1 = v ∧ x.2.2.1 = q
    · rw [if_pos c1]
      by_cases c2 : x.2.2.2.1 = op
      · rw [if_pos ⟨c1.1, c1.2.1, c1.2.2, c2⟩]; exact ih.cons_cons _
      · rw [if_neg (fun h => c2 h.2.2.2)]; exact ih.cons _
    · rw [if_neg c1, if_neg (fun h => c1 ⟨h.1, h.2.1, h.2.2.1⟩)]; exact ih
theorem ops_len (l : List voteSh.T) (k v q : Int) : (opsL l k v q).length = (fromsL l k v q).length := by
  unfold opsL fromsL
  induction (show List Vt from l) with
  | nil => rfl
  | cons x xs ih =>
    rw [List.filterMap_cons, List.filterMap_cons]
    by_cases c1 : x.1 = k ∧ x.2.1 = v ∧ x.2.2.1 = q
    · rw [if_pos c1, if_pos c1]; simp only [List.length_cons, ih]
    · rw [if_neg c1, if_neg c1]; exact ih
theorem froms_len {l : List voteSh.T} (H : VotsOk l) (k v q : Int) : (fromsL l k v q).length ≤ 4 := by
  refine nodup_len 4 _ (nodup_froms H k v q) fun f hf => ?_
  unfold fromsL at hf
  rw [List.mem_filterMap] at hf
  obtain ⟨⟨k', v', q', op', f'⟩, hx, e⟩ := hf
  dsimp only at e
  split at e
  · cases e
    have := (vots_mem H hx).2.2.2.2
    exact ⟨this.1, by have := this.2; omega⟩
  · cases e
theorem nodup_casts {l : List voteSh.T} (H : VotsOk l) (k v q : Int) (op : ByteArray) : (castsL l k v q op).Nodup := (nodup_froms H k v q).sublist (casts_sub l k v q op)
theorem casts_len {l : List voteSh.T} (H : VotsOk l) (k v q : Int) (op : ByteArray) : (castsL l k v q op).length ≤ 4 := Nat.le_trans (casts_sub l k v q op).length_le (froms_len H k v q)
theorem casts_voters {l : List voteSh.T} (H : VotsOk l) {k v q : Int} {op : ByteArray} {ys : List Int} (hp : ys.Perm (castsL l k v q op)) (ho : OrdI ys ys.length) : ys = votersM l k v q op := by
  refine asc_ext (ord_asc ho (hp.nodup_iff.2 (nodup_casts H k v q op))) upP_asc fun x => ?_
  rw [hp.mem_iff, mem_castsL]
  unfold votersM
  rw [mem_upP]
  exact ⟨fun h => ⟨(vots_mem H h).2.2.2.2.1, by have := (vots_mem H h).2.2.2.2.2; omega, h⟩, fun h => h.2.2⟩
theorem castsL_take {l : List voteSh.T} {k v q : Int} {op : ByteArray} {i : Nat} {k' v' q' f' : Int} {op' : ByteArray} (h : l[i]? = some (k', v', q', op', f')) :
    castsL (l.take (i + 1)) k v q op = castsL (l.take i) k v q op ++ (if k' = k ∧ v' = v ∧ q' = q ∧ op' = op then [f'] else []) := by
  have hl := (List.getElem?_eq_some_iff.1 h).1
  have hx : l[i] = (k', v', q', op', f') := by exact Option.some.inj ((List.getElem?_eq_getElem hl).symm.trans h)
  rw [List.take_succ_eq_append_getElem hl, hx]
  unfold castsL
  show List.filterMap _ (List.take i l ++ [(k', v', q', op', f')]) = _
  rw [List.filterMap_append]
  congr 1
  rw [List.filterMap_cons, List.filterMap_nil]
  dsimp only
  split <;> rename_i h1
  · split at h1
    · cases h1
    · rename_i c; rw [if_neg c]
  · split at h1
    · rename_i c; cases h1; rw [if_pos c]
    · cases h1
theorem opsL_take {l : List voteSh.T} {k v q : Int} {i : Nat} {k' v' q' f' : Int} {op' : ByteArray} (h : l[i]? = some (k', v', q', op', f')) :
    opsL (l.take (i + 1)) k v q = opsL (l.take i) k v q ++ (if k' = k ∧ v' = v ∧ q' = q then [op'] else []) := by
  have hl := (List.getElem?_eq_some_iff.1 h).1
  have hx : l[i] = (k', v', q', op', f') := by exact Option.some.inj ((List.getElem?_eq_getElem hl).symm.trans h)
  rw [List.take_succ_eq_append_getElem hl, hx]
  unfold opsL
  show List.filterMap _ (List.take i l ++ [(k', v', q', op', f')]) = _
  rw [List.filterMap_append]
  congr 1
  rw [List.filterMap_cons, List.filterMap_nil]
  dsimp only
  split <;> rename_i h1
  · split at h1
    · cases h1
    · rename_i c; rw [if_neg c]
  · split at h1
    · rename_i c; cases h1; rw [if_pos c]
    · cases h1
noncomputable def bestM (l : List voteSh.T) (q : Int) : Nat → Option (Int × ByteArray)
  | 0 => none
  | n + 1 => match provedM l 2 n q with
    | some op => some ((n : Int), op)
    | none => bestM l q n
noncomputable def decM (l : List voteSh.T) (q : Int) : Nat → Option ByteArray
  | 0 => none
  | n + 1 => match decM l q n with
    | some op => some op
    | none => provedM l 3 n q
theorem decM_stay {l : List voteSh.T} {q : Int} {op : ByteArray} {n : Nat} (h : decM l q n = some op) : ∀ m, n ≤ m → decM l q m = some op := fun m hm => by
  induction m with
  | zero => obtain rfl : n = 0 := by omega
            exact h
  | succ m ih =>
    by_cases e : n = m + 1
    · rw [← e]; exact h
    · rw [decM, ih (by omega)]
theorem decM_hit {l : List voteSh.T} {q : Int} {op : ByteArray} {n : Nat} (h : decM l q n = none) (h2 : provedM l 3 n q = some op) : decM l q (n + 1) = some op := by rw [decM, h, h2]
theorem decM_miss {l : List voteSh.T} {q : Int} {n : Nat} (h : decM l q n = none) (h2 : provedM l 3 n q = none) : decM l q (n + 1) = none := by rw [decM, h, h2]
end Go.Dat
end
