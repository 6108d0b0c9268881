/- Data by shapes: sizes; rows that are owned; marks. -/
import Derived.Test.YtanienlcebkijaaV11A24
namespace Go.Dat
open Go.Abs
def szL {α : Type} (f : α → Int → Int) : List α → Int → Int
  | [], l => l
  | x :: xs, l => if f x l < 0 then -1 else szL f xs (f x l)
def Sh.sz : (s : Sh) → s.T → Int → Int
  | .int, _, l => l
  | .bool, _, l => l
  | .byte, _, l => l
  | .str, x, l => if l - (ByteArray.size x : Int) < 0 then -1 else l - (ByteArray.size x : Int)
  | .pair a b, x, l => if a.sz x.1 l < 0 then -1 else b.sz x.2 (a.sz x.1 l)
  | .sl e, xs, l => if l - (List.length (α := e.T) xs : Int) < 0 then -1 else szL (α := e.T) e.sz xs (l - (List.length (α := e.T) xs : Int))
def Sh.small : (s : Sh) → s.T → Prop
  | .int, _ => True
  | .bool, _ => True
  | .byte, _ => True
  | .str, x => ByteArray.size x ≤ 1048576
  | .pair a b, x => a.small x.1 ∧ b.small x.2
  | .sl e, xs => List.length (α := e.T) xs ≤ 1048576 ∧ ∀ x ∈ (show List e.T from xs), e.small x
theorem szL_le {α : Type} {f : α → Int → Int} (hf : ∀ x l, 0 ≤ l → -1 ≤ f x l ∧ f x l ≤ l) : ∀ (xs : List α) (l : Int), 0 ≤ l → -1 ≤ szL f xs l ∧ szL f xs l ≤ l := by
  intro xs
  induction xs with
  | nil => intro l h; exact ⟨by unfold szL; omega, Int.le_refl _⟩
  | cons x xs ih =>
    intro l h
    have := hf x l h
    unfold szL
    split
    · omega
    · have := ih (f x l) (by omega); omega
theorem Sh.sz_le : ∀ (s : Sh) (x : s.T) (l : Int), 0 ≤ l → -1 ≤ s.sz x l ∧ s.sz x l ≤ l := by
  intro s
  induction s with
  | int => intro x l h; exact ⟨by show -1 ≤ l; omega, Int.le_refl _⟩
  | bool => intro x l h; exact ⟨by show -1 ≤ l; omega, Int.le_refl _⟩
  | byte => intro x l h; exact ⟨by show -1 ≤ l; omega, Int.le_refl _⟩
  | str =>
    intro x l h; unfold Sh.sz
    split <;> omega
  | pair a b iha ihb =>
    intro x l h; unfold Sh.sz
    have := iha x.1 l h
    split
    · omega
    · have := ihb x.2 (a.sz x.1 l) (by omega); omega
  | sl e ih =>
    intro x l h; unfold Sh.sz
    split
    · omega
    · have := szL_le ih x (l - (List.length (α := e.T) x : Int)) (by omega); omega
theorem szL_fits {α : Type} {f : α → Int → Int} {q : α → Prop} (hle : ∀ x l, 0 ≤ l → -1 ≤ f x l ∧ f x l ≤ l) (hf : ∀ x l, 0 ≤ l → l ≤ 1048576 → 0 ≤ f x l → q x) : ∀ (xs : List α) (l : Int), 0 ≤ l → l ≤ 1048576 → 0 ≤ szL f xs l → ∀ x ∈ xs, q x := by
  intro xs
  induction xs with
  | nil => intro l _ _ _ x h; simp at h
  | cons x xs ih =>
    intro l h0 h1 h2 y hy
    unfold szL at h2
    split at h2
    · omega
    · rename_i hn
      have := hle x l h0
      rcases List.mem_cons.1 hy with rfl | hy
      · exact hf y l h0 h1 (by omega)
      · exact ih (f x l) (by omega) (by omega) h2 y hy
theorem Sh.sz_small : ∀ (s : Sh) (x : s.T) (l : Int), 0 ≤ l → l ≤ 1048576 → 0 ≤ s.sz x l → s.small x := by
  intro s
  induction s with
  | int => intro _ _ _ _ _; trivial
  | bool => intro _ _ _ _ _; trivial
  | byte => intro _ _ _ _ _; trivial
  | str =>
    intro x l h0 h1 h2
    unfold Sh.sz at h2
    split at h2
    · omega
    · show ByteArray.size x ≤ 1048576; omega
  | pair a b iha ihb =>
    intro x l h0 h1 h2
    unfold Sh.sz at h2
    have := a.sz_le x.1 l h0
    split at h2
    · omega
    · exact ⟨iha x.1 l h0 h1 (by omega), ihb x.2 _ (by omega) (by omega) h2⟩
  | sl e ih =>
    intro x l h0 h1 h2
    unfold Sh.sz at h2
    split at h2
    · omega
    · exact ⟨by show List.length (α := e.T) x ≤ _; omega, szL_fits e.sz_le ih x _ (by omega) (by omega) h2⟩
def Sh.ro (h : AHeap) : (s : Sh) → s.T → List Value → List Nat → Prop
  | .int, x, cs, ids => cs = [.int .i64 x] ∧ ids = []
  | .bool, x, cs, ids => cs = [.bool x] ∧ ids = []
  | .str, x, cs, ids => cs = [.string x] ∧ ids = []
  | .byte, x, cs, ids => cs = [.int .u8 x] ∧ ids = []
  | .pair a b, x, cs, ids => ∃ c1 c2 i1 i2, cs = c1 ++ c2 ∧ ids = i1 ++ i2 ∧ a.ro h x.1 c1 i1 ∧ b.ro h x.2 c2 i2
  | .sl e, xs, cs, ids => ∃ a n c, cs = [.slice a n c] ∧ SAddr e.cells a n c ∧ List.length (α := e.T) xs = n ∧
      ((n = 0 ∧ ids = [] ∧ h.rowsOf (.slice a n c) = some []) ∨ ∃ l r rows idss, a = some ⟨l, r, some e.cells⟩ ∧ h.get l = some ⟨rows, e.cells, true⟩ ∧ r + n ≤ rows.length ∧ List.length (α := List Nat) idss = n ∧ ids = l :: idss.flatten ∧
        ∀ (i : Nat) (x : e.T) (row : List Value) (js : List Nat), (show List e.T from xs)[i]? = some x → rows[r + i]? = some row → idss[i]? = some js → e.ro h x row js)
def So (h : AHeap) (s : Sh) (xs : List s.T) (v : Value) (ids : List Nat) : Prop :=
  ∃ a n c, v = .slice a n c ∧ SAddr s.cells a n c ∧ xs.length = n ∧
      ((n = 0 ∧ ids = [] ∧ h.rowsOf (.slice a n c) = some []) ∨ ∃ l r rows idss, a = some ⟨l, r, some s.cells⟩ ∧ h.get l = some ⟨rows, s.cells, true⟩ ∧ r + n ≤ rows.length ∧ List.length (α := List Nat) idss = n ∧ ids = l :: idss.flatten ∧
        ∀ (i : Nat) (x : s.T) (row : List Value) (js : List Nat), xs[i]? = some x → rows[r + i]? = some row → idss[i]? = some js → s.ro h x row js)
theorem ro_sl {h : AHeap} {s : Sh} {xs : List s.T} {cs : List Value} {ids : List Nat} : Sh.ro h (.sl s) xs cs ids ↔ ∃ v, cs = [v] ∧ So h s xs v ids := by
  constructor
  · rintro ⟨a, n, c, rfl, h1⟩
    exact ⟨_, rfl, a, n, c, rfl, h1⟩
  · rintro ⟨_, rfl, a, n, c, rfl, h1⟩
    exact ⟨a, n, c, rfl, h1⟩
theorem get_rowsOf {h : AHeap} {l r e n c : Nat} {rows : List (List Value)} {b : Bool} (hg : h.get l = some ⟨rows, e, b⟩) (hr : r + n ≤ rows.length) : h.rowsOf (.slice (some ⟨l, r, some e⟩) n c) = some ((rows.drop r).take n) := by
  unfold AHeap.rowsOf
  dsimp only
  rw [hg]
  simp [hr]
theorem Sh.ro.rd {h : AHeap} : ∀ {s : Sh} {x : s.T} {cs : List Value} {ids : List Nat}, s.ro h x cs ids → s.rd h x cs := by
  intro s
  induction s with
  | int => intro x cs ids e; exact e.1
  | bool => intro x cs ids e; exact e.1
  | str => intro x cs ids e; exact e.1
  | byte => intro x cs ids e; exact e.1
  | pair a b iha ihb =>
    rintro x cs ids ⟨c1, c2, i1, i2, e, _, h1, h2⟩
    exact ⟨c1, c2, e, iha h1, ihb h2⟩
  | sl e ih =>
    rintro xs cs ids ⟨a, n, c, rfl, hs, hn, ⟨rfl, _, h1⟩ | ⟨l, r, rows, idss, rfl, hg, hr, hl, _, hx⟩⟩
    · exact ⟨a, 0, c, [], rfl, hs, h1, hn, fun i x row _ h => by simp at h⟩
    · refine ⟨_, n, c, _, rfl, hs, get_rowsOf hg hr, hn, fun i x row hi hrow => ?_⟩
      have hin : i < n := by rw [← hn]; exact (List.getElem?_eq_some_iff.1 hi).1
      rw [List.getElem?_take, if_pos hin, List.getElem?_drop] at hrow
      exact ih (hx i x row idss[i] hi hrow (List.getElem?_eq_getElem (by omega)))
theorem So.sl {h : AHeap} {s : Sh} {xs : List s.T} {v : Value} {ids : List Nat} (x : So h s xs v ids) : Sl h s xs v := by
  obtain ⟨v', e, h1⟩ := rd_sl.1 (Sh.ro.rd (ro_sl.2 ⟨v, rfl, x⟩))
  cases e; exact h1
structure Shp (h h' : AHeap) : Prop where
  n : h.n ≤ h'.n
  get : ∀ l rows e b, h.get l = some ⟨rows, e, b⟩ → ∃ rows', h'.get l = some ⟨rows', e, b⟩ ∧ rows'.length = rows.length
theorem Shp.refl (h : AHeap) : Shp h h := ⟨Nat.le_refl _, fun _ rows _ _ e => ⟨rows, e, rfl⟩⟩
theorem Shp.trans {a b c : AHeap} (x : Shp a b) (y : Shp b c) : Shp a c := ⟨Nat.le_trans x.n y.n, fun l rows e b h => by
  obtain ⟨r1, h1, e1⟩ := x.get l rows e b h
  obtain ⟨r2, h2, e2⟩ := y.get l r1 e b h1
  exact ⟨r2, h2, by rw [e2, e1]⟩⟩
theorem _root_.Go.Abs.AHeap.Le.shp {h h' : AHeap} (x : h.Le h') : Shp h h' := ⟨x.n, fun l rows e b hg => ⟨rows, x.get l _ hg, rfl⟩⟩
theorem Shp.none {h h' : AHeap} (x : Shp h h') {a : Option Addr} {c : Nat} {rows : List (List Value)} {e : Nat} (ha : SAddr e a 0 c) (hr : h.rowsOf (.slice a 0 c) = some rows) : h'.rowsOf (.slice a 0 c) = some [] := by
  rcases ha with ⟨rfl, _, rfl⟩ | ⟨l, r, rfl⟩
  · rfl
  · unfold AHeap.rowsOf at hr ⊢
    dsimp only at hr ⊢
    split at hr
    · rename_i o ho
      obtain ⟨rows', h1, h2⟩ := x.get l o.rows o.esz o.rw ho
      rw [h1]
      dsimp only
      cases hc : (o.esz == e && decide (r + 0 ≤ o.rows.length)) with
      | false => rw [hc] at hr; cases hr
      | true =>
        simp only [Bool.and_eq_true, decide_eq_true_eq] at hc
        rw [hc.1, decide_eq_true (show r + 0 ≤ rows'.length by omega)]
        simp
    · cases hr
theorem Sh.ro.frame {h h' : AHeap} (hs : Shp h h') : ∀ {s : Sh} {x : s.T} {cs : List Value} {ids : List Nat}, (∀ l ∈ ids, h'.get l = h.get l) → s.ro h x cs ids → s.ro h' x cs ids := by
  intro s
  induction s with
  | int => intro x cs ids _ e; exact e
  | bool => intro x cs ids _ e; exact e
  | str => intro x cs ids _ e; exact e
  | byte => intro x cs ids _ e; exact e
  | pair a b iha ihb =>
    rintro x cs ids hi ⟨c1, c2, i1, i2, e, rfl, h1, h2⟩
    exact ⟨c1, c2, i1, i2, e, rfl, iha (fun l hl => hi l (List.mem_append_left _ hl)) h1, ihb (fun l hl => hi l (List.mem_append_right _ hl)) h2⟩
  | sl e ih =>
    rintro xs cs ids hi ⟨a, n, c, rfl, hs', hn, ⟨rfl, e2, h1⟩ | ⟨l, r, rows, idss, rfl, hg, hr, hl, rfl, hx⟩⟩
    · exact ⟨a, 0, c, rfl, hs', hn, .inl ⟨rfl, e2, hs.none hs' h1⟩⟩
    · refine ⟨_, n, c, rfl, hs', hn, .inr ⟨l, r, rows, idss, rfl, by rw [hi l (by simp)]; exact hg, hr, hl, rfl, fun i x row js h1 h2 h3 => ih (fun q hq => hi q ?_) (hx i x row js h1 h2 h3)⟩⟩
      exact List.mem_cons_of_mem _ (List.mem_flatten.2 ⟨js, List.mem_of_getElem? h3, hq⟩)
theorem So.frame {h h' : AHeap} (hs : Shp h h') {s : Sh} {xs : List s.T} {v : Value} {ids : List Nat} (hi : ∀ l ∈ ids, h'.get l = h.get l) (x : So h s xs v ids) : So h' s xs v ids := by
  obtain ⟨v', e, h1⟩ := ro_sl.1 (Sh.ro.frame hs hi (ro_sl.2 ⟨v, rfl, x⟩))
  cases e; exact h1
structure Fresh (a b : Nat) (ids : List Nat) : Prop where
  nd : ids.Nodup
  bd : ∀ l ∈ ids, a ≤ l ∧ l < b
theorem Fresh.nil {a b : Nat} : Fresh a b [] := ⟨List.nodup_nil, fun l h => by simp at h⟩
theorem Fresh.append {a b c : Nat} {i j : List Nat} (hab : a ≤ b) (hbc : b ≤ c) (x : Fresh a b i) (y : Fresh b c j) : Fresh a c (i ++ j) :=
  ⟨List.nodup_append.2 ⟨x.nd, y.nd, fun p hp q hq e => by
      have h1 := (x.bd p hp).2
      have h2 := (y.bd q hq).1
      omega⟩, fun l hl => by
    rcases List.mem_append.1 hl with hl | hl
    · have := x.bd l hl; omega
    · have := y.bd l hl; omega⟩
theorem Fresh.one {a b : Nat} (h : a < b) : Fresh a b [a] := ⟨by simp, fun l hl => by simp at hl; omega⟩
theorem Fresh.widen {a b a' b' : Nat} {i : List Nat} (x : Fresh a b i) (h1 : a' ≤ a) (h2 : b ≤ b') : Fresh a' b' i := ⟨x.nd, fun l hl => by have := x.bd l hl; omega⟩
end Go.Dat
