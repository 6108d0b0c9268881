/- Data by shapes: numbers, truth values, texts, structs, slices; what they read as in a heap; the input of a row opened at once. -/
import Derived.Test.YtdcijleeoihlfaaV9A23
import Derived.Deep.Slices
namespace Go.Dat
open Go.Abs
open Go.ChangeShapes Go.WideShapes Go.Deep
inductive Sh where
  | int | bool | str | byte
  | pair (a b : Sh)
  | sl (e : Sh)
@[reducible] def Sh.T : Sh → Type
  | .int => Int
  | .bool => Bool
  | .str => ByteArray
  | .byte => Int
  | .pair a b => a.T × b.T
  | .sl e => List e.T
def Sh.cells : Sh → Nat
  | .int => 1
  | .bool => 1
  | .str => 1
  | .byte => 1
  | .pair a b => a.cells + b.cells
  | .sl _ => 1
def SAddr (e : Nat) (a : Option Addr) (n c : Nat) : Prop := (a = none ∧ n = 0 ∧ c = 0) ∨ ∃ l r, a = some ⟨l, r, some e⟩
def Sh.rd (h : AHeap) : (s : Sh) → s.T → List Value → Prop
  | .int, x, cs => cs = [.int .i64 x]
  | .bool, x, cs => cs = [.bool x]
  | .str, x, cs => cs = [.string x]
  | .byte, x, cs => cs = [.int .u8 x]
  | .pair a b, x, cs => ∃ c1 c2, cs = c1 ++ c2 ∧ a.rd h x.1 c1 ∧ b.rd h x.2 c2
  | .sl e, xs, cs => ∃ a n c rows, cs = [.slice a n c] ∧ SAddr e.cells a n c ∧ h.rowsOf (.slice a n c) = some rows ∧ List.length (α := e.T) xs = n ∧
      ∀ (i : Nat) (x : e.T) (row : List Value), (show List e.T from xs)[i]? = some x → rows[i]? = some row → e.rd h x row
def Sh.ok : (s : Sh) → s.T → Prop
  | .int, x => (-9223372036854775808 : Int) ≤ (show Int from x) ∧ (show Int from x) ≤ 9223372036854775807
  | .bool, _ => True
  | .str, x => ByteArray.size x ≤ 9223372036854775807
  | .byte, x => (0 : Int) ≤ (show Int from x) ∧ (show Int from x) ≤ 255
  | .pair a b, x => a.ok x.1 ∧ b.ok x.2
  | .sl e, xs => List.length (α := e.T) xs ≤ 9223372036854775807 ∧ ∀ x ∈ (show List e.T from xs), e.ok x
def Sl (h : AHeap) (s : Sh) (xs : List s.T) (v : Value) : Prop :=
  ∃ a n c rows, v = .slice a n c ∧ SAddr s.cells a n c ∧ h.rowsOf (.slice a n c) = some rows ∧ xs.length = n ∧ ∀ (i : Nat) (x : s.T) (row : List Value), xs[i]? = some x → rows[i]? = some row → s.rd h x row
theorem rd_sl {h : AHeap} {s : Sh} {xs : List s.T} {cs : List Value} : Sh.rd h (.sl s) xs cs ↔ ∃ v, cs = [v] ∧ Sl h s xs v := by
  constructor
  · rintro ⟨a, n, c, rows, rfl, h1, h2, h3, h4⟩
    exact ⟨_, rfl, a, n, c, rows, rfl, h1, h2, h3, h4⟩
  · rintro ⟨_, rfl, a, n, c, rows, rfl, h1, h2, h3, h4⟩
    exact ⟨a, n, c, rows, rfl, h1, h2, h3, h4⟩
theorem Sh.rd.mono {h h' : AHeap} (hl : h.Le h') : ∀ {s : Sh} {x : s.T} {cs : List Value}, s.rd h x cs → s.rd h' x cs := by
  intro s
  induction s with
  | int => intro x cs e; exact e
  | bool => intro x cs e; exact e
  | str => intro x cs e; exact e
  | byte => intro x cs e; exact e
  | pair a b iha ihb =>
    rintro x cs ⟨c1, c2, e, h1, h2⟩
    exact ⟨c1, c2, e, iha h1, ihb h2⟩
  | sl e ih =>
    rintro x cs ⟨a, n, c, rows, e, h1, h2, h3, h4⟩
    exact ⟨a, n, c, rows, e, h1, hl.rowsOf h2, h3, fun i x row hx hr => ih (h4 i x row hx hr)⟩
theorem Sl.mono {h h' : AHeap} (hl : h.Le h') {s : Sh} {xs : List s.T} {v : Value} (x : Sl h s xs v) : Sl h' s xs v := by
  obtain ⟨a, n, c, rows, e, h1, h2, h3, h4⟩ := x
  exact ⟨a, n, c, rows, e, h1, hl.rowsOf h2, h3, fun i x row hx hr => (h4 i x row hx hr).mono hl⟩
theorem Sh.rd_len {h : AHeap} : ∀ {s : Sh} {x : s.T} {cs : List Value}, s.rd h x cs → cs.length = s.cells := by
  intro s
  induction s with
  | int => rintro x cs rfl; rfl
  | bool => rintro x cs rfl; rfl
  | str => rintro x cs rfl; rfl
  | byte => rintro x cs rfl; rfl
  | pair a b iha ihb =>
    rintro x cs ⟨c1, c2, rfl, h1, h2⟩
    rw [List.length_append, iha h1, ihb h2]; rfl
  | sl e ih =>
    rintro x cs ⟨a, n, c, rows, rfl, h1, h2, h3, h4⟩
    rfl
theorem rowsOf_len {h : AHeap} {e : Nat} {a : Option Addr} {n c : Nat} {rows : List (List Value)} (ha : SAddr e a n c) (hr : h.rowsOf (.slice a n c) = some rows) : rows.length = n := by
  rcases ha with ⟨rfl, rfl, rfl⟩ | ⟨l, r, rfl⟩
  · have : some [] = some rows := hr
    cases this; rfl
  · exact rows_len hr
theorem Sl.elem {h : AHeap} {s : Sh} {xs : List s.T} {a : Option Addr} {n c : Nat} (x : Sl h s xs (.slice a n c)) {i : Nat} {y : s.T} (hy : xs[i]? = some y) :
    ∃ l r row, a = some ⟨l, r, some s.cells⟩ ∧ i < n ∧ s.rd h y row ∧ h.ld l (r + i) 0 s.cells = some row := by
  obtain ⟨a', n', c', rows, e, h1, h2, h3, h4⟩ := x
  cases e
  have hi : i < xs.length := (List.getElem?_eq_some_iff.1 hy).1
  have hlen := rowsOf_len h1 h2
  rcases h1 with ⟨rfl, rfl, rfl⟩ | ⟨l, r, rfl⟩
  · omega
  · have hr : rows[i]? = some rows[i] := List.getElem?_eq_getElem (by omega)
    have := h4 i y _ hy hr
    exact ⟨l, r, rows[i], rfl, by omega, this, rows_ld h2 hr (Sh.rd_len this)⟩
theorem Sl.len {h : AHeap} {s : Sh} {xs : List s.T} {a : Option Addr} {n c : Nat} (x : Sl h s xs (.slice a n c)) : xs.length = n := by
  obtain ⟨a', n', c', rows, e, h1, h2, h3, h4⟩ := x
  cases e; exact h3
theorem Sl.isSlice {h : AHeap} {s : Sh} {xs : List s.T} {v : Value} (x : Sl h s xs v) : ∃ a c, v = .slice a xs.length c := by
  obtain ⟨a', n', c', rows, rfl, h1, h2, h3, h4⟩ := x
  exact ⟨a', c', by rw [h3]⟩
def shapesF (q : TypeId → Sh → Bool) (P : Program) : List Field → Nat → Sh → Bool
  | [f], off, s => f.offset == off && P.cellsOf f.type == s.cells && q f.type s
  | f :: g :: fs, off, .pair a b => f.offset == off && P.cellsOf f.type == a.cells && q f.type a && shapesF q P (g :: fs) (off + a.cells) b
  | _, _, _ => false
def shapes : Nat → Program → TypeId → Sh → Bool
  | 0, _, _, _ => false
  | n + 1, P, t, s => match P.underlying t with
    | some .bool => (match s with | .bool => true | _ => false)
    | some (.int .i64) => (match s with | .int => true | _ => false)
    | some .string => (match s with | .str => true | _ => false)
    | some (.int .u8) => (match s with | .byte => true | _ => false)
    | some (.slice e) => (match s with | .sl s => shapes n P e s && P.cellsOf e == s.cells && decide (0 < s.cells) | _ => false)
    | some (.struct fs) => P.cellsOf t == s.cells && shapesF (shapes n P) P fs.toList 0 s
    | _ => false
structure IGood (W : World) (os : List InObj) : Prop where
  lt : ∀ (i : Nat) (o : InObj), os[i]? = some o → o.blk < W.heap.size
  len : ∀ (i : Nat) (o : InObj), os[i]? = some o → ∀ (r : Nat) (row : List Value), o.rows[r]? = some row → row.length = o.esz
  cell : ∀ (i : Nat) (o : InObj), os[i]? = some o → ∀ (r : Nat) (row : List Value), o.rows[r]? = some row → ∀ (j : Nat) (v : Value), row[j]? = some v → ∃ V, W.cell? ⟨o.blk, o.base + r * o.esz + j, none⟩ = some V ∧ VRel (inLay os) v V
theorem IGood.nil {W : World} : IGood W [] := ⟨fun i o h => by simp at h, fun i o h => by simp at h, fun i o h => by simp at h⟩
theorem IGood.rel {W : World} {os : List InObj} (g : IGood W os) : Rel (inLay os) (fun b => b < W.heap.size) (fun b => b < W.heap.size) W W (inHeap os) := in_rel g.lt g.len g.cell
theorem inHeap_wf {os : List InObj} : (inHeap os).wf := by
  intro l hl
  show (os[l]?).map _ = none
  rw [List.getElem?_eq_none hl]; rfl
structure CRel (L : Lay) (acs cs : List Value) : Prop where
  len : acs.length = cs.length
  rel : ∀ (i : Nat) (v V : Value), acs[i]? = some v → cs[i]? = some V → VRel L v V
theorem CRel.one {L : Lay} {v V : Value} (h : VRel L v V) : CRel L [v] [V] := ⟨rfl, fun i a b ha hb => by
  cases i with
  | zero => simp at ha hb; subst ha; subst hb; exact h
  | succ i => simp at ha⟩
theorem CRel.mono {L L' : Lay} (hl : L.le L') {a b : List Value} (h : CRel L a b) : CRel L' a b := ⟨h.len, fun i v V h1 h2 => (h.rel i v V h1 h2).mono hl⟩
theorem CRel.append {L : Lay} {a b a' b' : List Value} (h : CRel L a b) (h' : CRel L a' b') : CRel L (a ++ a') (b ++ b') := by
  refine ⟨by rw [List.length_append, List.length_append, h.len, h'.len], fun i v V h1 h2 => ?_⟩
  have e := h.len
  rcases Nat.lt_or_ge i a.length with hi | hi
  · rw [List.getElem?_append_left hi] at h1
    rw [List.getElem?_append_left (by omega)] at h2
    exact h.rel i v V h1 h2
  · rw [List.getElem?_append_right hi] at h1
    rw [List.getElem?_append_right (by omega), ← e] at h2
    exact h'.rel _ v V h1 h2
variable {H : Type} {enc : TypeId × Value → H} {P : Program} {W : World}
end Go.Dat
