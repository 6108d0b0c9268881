/- Data by shapes: numbers, truth values, texts, structs, slices; what they read as in a heap; the input of a row opened at once. -/
import Derived.Test.YtanienlcebkijaaV11A23
import Derived.Deep.Slices
namespace Go.Dat
open Go.Abs
open Go.ChangeShapes Go.WideShapes Go.Deep
inductive Sh where
  | int | bool | str | byte
  | pair (a b : Sh)
  | sl (e : Sh)
@[reducible] def Sh.T : Sh → Type
  | .int => Int
  | .bool => Bool
  | .str => ByteArray
  | .byte => Int
  | .pair a b => a.T × b.T
  | .sl e => List e.T
def Sh.cells : Sh → Nat
  | .int => 1
  | .bool => 1
  | .str => 1
  | .byte => 1
  | .pair a b => a.cells + b.cells
  | .sl _ => 1
def SAddr (e : Nat) (a : Option Addr) (n c : Nat) : Prop := (a = none ∧ n = 0 ∧ c = 0) ∨ ∃ l r, a = some ⟨l, r, some e⟩
def Sh.rd (h : AHeap) : (s : Sh) → s.T → List Value → Prop
  | .int, x, cs => cs = [.int .i64 x]
  | .bool, x, cs => cs = [.bool x]
  | .str, x, cs => cs = [.string x]
  | .byte, x, cs => cs = [.int .u8 x]
  | .pair a b, x, cs => ∃ c1 c2, cs = c1 ++ c2 ∧ a.rd h x.1 c1 ∧ b.rd h x.2 c2
  | .sl e, xs, cs => ∃ a n c rows, cs = [.slice a n c] ∧ SAddr e.cells a n c ∧ h.rowsOf (.slice a n c) = some rows ∧ List.length (α := e.T) xs = n ∧
      ∀ (i : Nat) (x : e.T) (row : List Value), (show List e.T from xs)[i]? = some x → rows[i]? = some row → e.rd h x row
def Sh.ok : (s : Sh) → s.T → Prop
  | .int, x => (-9223372036854775808 : Int) ≤ (show Int from x) ∧ (show Int from x) ≤ 9223372036854775807
  | .bool, _ => True
  | .str, x => ByteArray.size x ≤ 9223372036854775807
  | .byte, x => (0 : Int) ≤ (show Int from x) ∧ (show Int from x) ≤ 255
  | .pair a b, x => a.ok x.1 ∧ b.ok x.2
  | .sl e, xs => List.length (α := e.T) xs ≤ 9223372036854775807 ∧ ∀ x ∈ (show List e.T from xs), e.ok x
def Sl (h : AHeap) (s : Sh) (xs : List s.T) (v : Value) : Prop :=
  ∃ a n c rows, v = .slice a n c ∧ SAddr s.cells a n c ∧ h.rowsOf (.slice a n c) = some rows ∧ xs.length = n ∧ ∀ (i : Nat) (x : s.T) (row : List Value), xs[i]? = some x → rows[i]? = some row → s.rd h x row
theorem rd_sl {h : AHeap} {s : Sh} {xs : List s.T} {cs : List Value} : Sh.rd h (.sl s) xs cs ↔ ∃ v, cs = [v] ∧ Sl h s xs v := by
  constructor
  · rintro ⟨a, n, c, rows, rfl, h1, h2, h3, h4⟩
    exact ⟨_, rfl, a, n, c, rows, rfl, h1, h2, h3, h4⟩
  · rintro ⟨_, rfl, a, n, c, rows, rfl, h1, h2, h3, h4⟩
    exact ⟨a, n, c, rows, rfl, h1, h2, h3, h4⟩
theorem Sh.rd.mono {h h' : AHeap} (hl : h.Le h') : ∀ {s : Sh} {x : s.T} {cs : List Value}, s.rd h x cs → s.rd h' x cs := by
  intro s
  induction s with
  | int => intro x cs e; exact e
  | bool => intro x cs e; exact e
  | str => intro x cs e; exact e
  | byte => intro x cs e; exact e
  | pair a b iha ihb =>
    rintro x cs ⟨c1, c2, e, h1, h2⟩
    exact ⟨c1, c2, e, iha h1, ihb h2⟩
  | sl e ih =>
    rintro x cs ⟨a, n, c, rows, e, h1, h2, h3, h4⟩
    exact ⟨a, n, c, rows, e, h1, hl.rowsOf h2, h3, fun i x row hx hr => ih (h4 i x row hx hr)⟩
theorem Sl.mono {h h' : AHeap} (hl : h.Le h') {s : Sh} {xs : List s.T} {v : Value} (x : Sl h s xs v) : Sl h' s xs v := by
  obtain ⟨a, n, c, rows, e, h1, h2, h3, h4⟩ := x
  exact ⟨a, n, c, rows, e, h1, hl.rowsOf h2, h3, fun i x row hx hr => (h4 i x row hx hr).mono hl⟩
theorem Sh.rd_len {h : AHeap} : ∀ {s : Sh} {x : s.T} {cs : List Value}, s.rd h x cs → cs.length = s.cells := by
  intro s
  induction s with
  | int => rintro x cs rfl; rfl
  | bool => rintro x cs rfl; rfl
  | str => rintro x cs rfl; rfl
  | byte => rintro x cs rfl; rfl
  | pair a b iha ihb =>
    rintro x cs ⟨c1, c2, rfl, h1, h2⟩
    rw [List.length_append, iha h1, ihb h2]; rfl
  | sl e ih =>
    rintro x cs ⟨a, n, c, rows, rfl, h1, h2, h3, h4⟩
    rfl
theorem rowsOf_len {h : AHeap} {e : Nat} {a : Option Addr} {n c : Nat} {rows : List (List Value)} (ha : SAddr e a n c) (hr : h.rowsOf (.slice a n c) = some rows) : rows.length = n := by
  rcases ha with ⟨rfl, rfl, rfl⟩ | ⟨l, r, rfl⟩
  · have : some [] = some rows := hr
    cases this; rfl
  · exact rows_len hr
theorem Sl.elem {h : AHeap} {s : Sh} {xs : List s.T} {a : Option Addr} {n c : Nat} (x : Sl h s xs (.slice a n c)) {i : Nat} {y : s.T} (hy : xs[i]? = some y) :
    ∃ l r row, a = some ⟨l, r, some s.cells⟩ ∧ i < n ∧ s.rd h y row ∧ h.ld l (r + i) 0 s.cells = some row := by
  obtain ⟨a', n', c', rows, e, h1, h2, h3, h4⟩ := x
  cases e
  have hi : i < xs.length := (List.getElem?_eq_some_iff.1 hy).1
  have hlen := rowsOf_len h1 h2
  rcases h1 with ⟨rfl, rfl, rfl⟩ | ⟨l, r, rfl⟩
  · omega
  · have hr : rows[i]? = some rows[i] := List.getElem?_eq_getElem (by omega)
    have := h4 i y _ hy hr
    exact ⟨l, r, rows[i], rfl, by omega, this, rows_ld h2 hr (Sh.rd_len this)⟩
theorem Sl.len {h : AHeap} {s : Sh} {xs : List s.T} {a : Option Addr} {n c : Nat} (x : Sl h s xs (.slice a n c)) : xs.length = n := by
  obtain ⟨a', n', c', rows, e, h1, h2, h3, h4⟩ := x
  cases e; exact h3
theorem Sl.isSlice {h : AHeap} {s : Sh} {xs : List s.T} {v : Value} (x : Sl h s xs v) : ∃ a c, v = .slice a xs.length c := by
  obtain ⟨a', n', c', rows, rfl, h1, h2, h3, h4⟩ := x
  exact ⟨a', c', by rw [h3]⟩
def shapesF (q : TypeId → Sh → Bool) (P : Program) : List Field → Nat → Sh → Bool
  | [f], off, s => f.offset == off && P.cellsOf f.type == s.cells && q f.type s
  | f :: g :: fs, off, .pair a b => f.offset == off && P.cellsOf f.type == a.cells && q f.type a && shapesF q P (g :: fs) (off + a.cells) b
  | _, _, _ => false
def shapes : Nat → Program → TypeId → Sh → Bool
  | 0, _, _, _ => false
  | n + 1, P, t, s => match P.underlying t with
    | some .bool => (match s with | .bool => true | _ => false)
    | some (.int .i64) => (match s with | .int => true | _ => false)
    | some .string => (match s with | .str => true | _ => false)
    | some (.int .u8) => (match s with | .byte => true | _ => false)
    | some (.slice e) => (match s with | .sl s => shapes n P e s && P.cellsOf e == s.cells && decide (0 < s.cells) | _ => false)
    | some (.struct fs) => P.cellsOf t == s.cells && shapesF (shapes n P) P fs.toList 0 s
    | _ => false
structure IGood (W : World) (os : List InObj) : Prop where
  lt : ∀ (i : Nat) (o : InObj), os[i]? = some o → o.blk < W.heap.size
  len : ∀ (i : Nat) (o : InObj), os[i]? = some o → ∀ (r : Nat) (row : List Value), o.rows[r]? = some row → row.length = o.esz
  cell : ∀ (i : Nat) (o : InObj), os[i]? = some o → ∀ (r : Nat) (row : List Value), o.rows[r]? = some row → ∀ (j : Nat) (v : Value), row[j]? = some v → ∃ V, W.cell? ⟨o.blk, o.base + r * o.esz + j, none⟩ = some V ∧ VRel (inLay os) v V
theorem IGood.nil {W : World} : IGood W [] := ⟨fun i o h => by simp at h, fun i o h => by simp at h, fun i o h => by simp at h⟩
theorem IGood.rel {W : World} {os : List InObj} (g : IGood W os) : Rel (inLay os) (fun b => b < W.heap.size) (fun b => b < W.heap.size) W W (inHeap os) := in_rel g.lt g.len g.cell
theorem getElem?_append_of {α : Type} {l m : List α} {i : Nat} {x : α} (h : l[i]? = some x) : (l ++ m)[i]? = some x := by
  rw [List.getElem?_append_left (List.getElem?_eq_some_iff.1 h).1]; exact h
theorem inLay_le {os more : List InObj} : (inLay os).le (inLay (os ++ more)) := by
  intro l s h
  unfold inLay at h ⊢
  rw [Option.map_eq_some_iff] at h ⊢
  obtain ⟨o, ho, e⟩ := h
  exact ⟨o, getElem?_append_of ho, e⟩
theorem inHeap_le {os more : List InObj} : (inHeap os).Le (inHeap (os ++ more)) := by
  refine ⟨?_, ?_⟩
  · show os.length ≤ (os ++ more).length
    simp
  · intro l s h
    unfold inHeap at h ⊢
    dsimp only at h ⊢
    rw [Option.map_eq_some_iff] at h ⊢
    obtain ⟨o, ho, e⟩ := h
    exact ⟨o, getElem?_append_of ho, e⟩
theorem inHeap_wf {os : List InObj} : (inHeap os).wf := by
  intro l hl
  show (os[l]?).map _ = none
  rw [List.getElem?_eq_none hl]; rfl
structure CRel (L : Lay) (acs cs : List Value) : Prop where
  len : acs.length = cs.length
  rel : ∀ (i : Nat) (v V : Value), acs[i]? = some v → cs[i]? = some V → VRel L v V
theorem CRel.one {L : Lay} {v V : Value} (h : VRel L v V) : CRel L [v] [V] := ⟨rfl, fun i a b ha hb => by
  cases i with
  | zero => simp at ha hb; subst ha; subst hb; exact h
  | succ i => simp at ha⟩
theorem CRel.mono {L L' : Lay} (hl : L.le L') {a b : List Value} (h : CRel L a b) : CRel L' a b := ⟨h.len, fun i v V h1 h2 => (h.rel i v V h1 h2).mono hl⟩
theorem CRel.append {L : Lay} {a b a' b' : List Value} (h : CRel L a b) (h' : CRel L a' b') : CRel L (a ++ a') (b ++ b') := by
  refine ⟨by rw [List.length_append, List.length_append, h.len, h'.len], fun i v V h1 h2 => ?_⟩
  have e := h.len
  rcases Nat.lt_or_ge i a.length with hi | hi
  · rw [List.getElem?_append_left hi] at h1
    rw [List.getElem?_append_left (by omega)] at h2
    exact h.rel i v V h1 h2
  · rw [List.getElem?_append_right hi] at h1
    rw [List.getElem?_append_right (by omega), ← e] at h2
    exact h'.rel _ v V h1 h2
def Opened (W : World) (os : List InObj) (s : Sh) (cs : List Value) : Prop :=
  ∃ (more : List InObj) (y : s.T) (acs : List Value), IGood W (os ++ more) ∧ s.rd (inHeap (os ++ more)) y acs ∧ CRel (inLay (os ++ more)) acs cs ∧ s.ok y
variable {H : Type} {enc : TypeId × Value → H} {P : Program} {W : World}
theorem open_fields (q : TypeId → Sh → Bool) (fuel : Nat)
    (hq : ∀ (t : TypeId) (s : Sh), q t s = true → ∀ (os : List InObj) (cs : List Value) (x : DataW H × List MemPlace), IGood W os → (∀ a n c, Value.slice (some a) n c ∈ cs → 0 < W.heap.size) →
      DataW.trod enc P W 0 (fun _ => true) true fuel t cs = some x → Opened W os s cs) :
    ∀ (fs : List Field) (off : Nat) (s : Sh) (all : List Value) (os : List InObj), shapesF q P fs off s = true → IGood W os → (∀ a n c, Value.slice (some a) n c ∈ all → 0 < W.heap.size) → all.length = off + s.cells →
      (∀ f ∈ fs, ∃ x, DataW.trod enc P W 0 (fun _ => true) true fuel f.type ((all.drop f.offset).take (P.cellsOf f.type)) = some x) → Opened W os s (all.drop off) := by
  intro fs
  induction fs with
  | nil => intro off s all os h; simp [shapesF] at h
  | cons f fs ih =>
    intro off s all os hf hg hz hlen hx
    cases fs with
    | nil =>
      simp only [shapesF, Bool.and_eq_true, beq_iff_eq] at hf
      obtain ⟨⟨e1, e2⟩, e3⟩ := hf
      obtain ⟨x, hx⟩ := hx f (by simp)
      rw [e1, e2, List.take_of_length_le (by rw [List.length_drop]; omega)] at hx
      exact hq f.type s e3 os _ x hg (fun a n c h => hz a n c (List.mem_of_mem_drop h)) hx
    | cons g fs =>
      cases s with
      | pair a b =>
        simp only [shapesF, Bool.and_eq_true, beq_iff_eq] at hf
        obtain ⟨⟨⟨e1, e2⟩, e3⟩, e4⟩ := hf
        have hlen' : all.length = off + (a.cells + b.cells) := hlen
        obtain ⟨x, hx1⟩ := hx f (by simp)
        rw [e1, e2] at hx1
        obtain ⟨m1, y1, c1, g1, r1, v1, k1⟩ := hq f.type a e3 os _ x hg (fun a n c h => hz a n c (List.mem_of_mem_drop (List.mem_of_mem_take h))) hx1
        obtain ⟨m2, y2, c2, g2, r2, v2, k2⟩ := ih (off + a.cells) b all (os ++ m1) e4 g1 hz (by omega) (fun f' hf' => hx f' (List.mem_cons_of_mem _ hf'))
        refine ⟨m1 ++ m2, (y1, y2), c1 ++ c2, by rw [← List.append_assoc]; exact g2, ⟨c1, c2, rfl, ?_, ?_⟩, ?_, k1, k2⟩
        · rw [← List.append_assoc]; exact r1.mono inHeap_le
        · rw [← List.append_assoc]; exact r2
        · rw [← List.append_assoc]
          have : all.drop off = (all.drop off).take a.cells ++ all.drop (off + a.cells) := by rw [← List.drop_drop, List.take_append_drop]
          rw [this]
          exact (v1.mono inLay_le).append v2
      | _ => simp [shapesF] at hf
theorem open_rows {s : Sh} {f : Nat → List Value} : ∀ (n : Nat) (os : List InObj), IGood W os →
    (∀ i, i < n → ∀ os, IGood W os → Opened W os s (f i)) →
    ∃ (more : List InObj) (ys : List s.T) (rows : List (List Value)), IGood W (os ++ more) ∧ ys.length = n ∧ rows.length = n ∧ (∀ y ∈ ys, s.ok y) ∧
      (∀ (i : Nat) (y : s.T) (row : List Value), ys[i]? = some y → rows[i]? = some row → s.rd (inHeap (os ++ more)) y row) ∧ ∀ (i : Nat) (row : List Value), rows[i]? = some row → CRel (inLay (os ++ more)) row (f i) := by
  intro n
  induction n with
  | zero => intro os hg _; exact ⟨[], [], [], by simpa using hg, rfl, rfl, by simp, fun i y row h => by simp at h, fun i row h => by simp at h⟩
  | succ n ih =>
    intro os hg hx
    obtain ⟨m1, ys, rows, g1, l1, l2, k1, r1, v1⟩ := ih os hg (fun i hi => hx i (by omega))
    obtain ⟨m2, y, row, g2, r2, v2, k2⟩ := hx n (by omega) _ g1
    refine ⟨m1 ++ m2, ys ++ [y], rows ++ [row], by rw [← List.append_assoc]; exact g2, by simp [l1], by simp [l2], ?_, ?_, ?_⟩
    · intro z hz
      rcases List.mem_append.1 hz with hz | hz
      · exact k1 z hz
      · rw [List.mem_singleton.1 hz]; exact k2
    · intro i z rw' hz hr
      rw [← List.append_assoc]
      rcases Nat.lt_or_ge i n with hi | hi
      · rw [List.getElem?_append_left (by omega)] at hz hr
        exact (r1 i z rw' hz hr).mono inHeap_le
      · have hin : i = n := by
          have := (List.getElem?_eq_some_iff.1 hz).1
          simp [l1] at this; omega
        subst hin
        rw [List.getElem?_append_right (by omega), l1, Nat.sub_self] at hz
        rw [List.getElem?_append_right (by omega), l2, Nat.sub_self] at hr
        cases hz; cases hr
        exact r2
    · intro i rw' hr
      rw [← List.append_assoc]
      rcases Nat.lt_or_ge i n with hi | hi
      · rw [List.getElem?_append_left (by omega)] at hr
        exact (v1 i rw' hr).mono inLay_le
      · have hin : i = n := by
          have := (List.getElem?_eq_some_iff.1 hr).1
          simp [l2] at this; omega
        subst hin
        rw [List.getElem?_append_right (by omega), l2, Nat.sub_self] at hr
        cases hr
        exact v2
theorem wf_i64 {n : Int} (h : (Lit.int .i64 n).wf = true) : -9223372036854775808 ≤ n ∧ n ≤ 9223372036854775807 := by
  have h2 : (IntKind.i64.min ≤ n && n ≤ IntKind.i64.max) = true := h
  simp only [Bool.and_eq_true, decide_eq_true_eq] at h2
  have e1 : IntKind.i64.min = -9223372036854775808 := by decide
  have e2 : IntKind.i64.max = 9223372036854775807 := by decide
  rw [e1, e2] at h2
  exact h2
theorem wf_u8 {n : Int} (h : (Lit.int .u8 n).wf = true) : 0 ≤ n ∧ n ≤ 255 := by
  have h2 : (IntKind.u8.min ≤ n && n ≤ IntKind.u8.max) = true := h
  simp only [Bool.and_eq_true, decide_eq_true_eq] at h2
  have e1 : IntKind.u8.min = 0 := by decide
  have e2 : IntKind.u8.max = 255 := by decide
  rw [e1, e2] at h2
  exact h2
theorem open_sh : ∀ (m : Nat) (t : TypeId) (s : Sh), shapes m P t s = true → ∀ (fuel : Nat) (os : List InObj) (cs : List Value) (x : DataW H × List MemPlace), IGood W os → (∀ a n c, Value.slice (some a) n c ∈ cs → 0 < W.heap.size) →
    DataW.trod enc P W 0 (fun _ => true) true fuel t cs = some x → Opened W os s cs := by
  intro m
  induction m with
  | zero => intro t s h; simp [shapes] at h
  | succ m ih =>
    intro t s hf fuel os cs x hg hz hx
    unfold shapes at hf
    split at hf
    · rename_i hu
      cases s <;> simp at hf
      obtain ⟨b, rfl, rfl⟩ := DataW.trod_bool hu hx
      exact ⟨[], b, [.bool b], by simpa using hg, rfl, .one (.bool b), trivial⟩
    · rename_i hu
      cases s <;> simp at hf
      obtain ⟨n, rfl, rfl, hw⟩ := DataW.trod_int hu hx
      exact ⟨[], n, [.int .i64 n], by simpa using hg, rfl, .one (.int _ n), wf_i64 hw⟩
    · rename_i hu
      cases s <;> simp at hf
      obtain ⟨n, rfl, rfl, hw⟩ := DataW.trod_string hu hx
      exact ⟨[], n, [.string n], by simpa using hg, rfl, .one (.string n), hw⟩
    · rename_i hu
      cases s <;> simp at hf
      obtain ⟨n, rfl, rfl, hw⟩ := DataW.trod_int hu hx
      exact ⟨[], n, [.int .u8 n], by simpa using hg, rfl, .one (.int _ n), wf_u8 hw⟩
    · rename_i e hu
      cases s <;> simp at hf
      rename_i s
      obtain ⟨⟨hf1, hce⟩, hpos⟩ := hf
      rcases open_slice hu hx with ⟨rfl, rfl⟩ | ⟨a, len, cap, m', n, D, Pl, rfl, hb, hl, hm, hmm, rfl, hel⟩
      · exact ⟨[], [], [.slice none 0 0], by simpa using hg, ⟨none, 0, 0, [], rfl, .inl ⟨rfl, rfl, rfl⟩, rfl, rfl, fun i x row h => by simp at h⟩, .one .sliceN, Nat.zero_le _, fun x h => by simp at h⟩
      · have hmm : m' = cap := by simpa using hmm
        subst hmm
        have hW := hz a len m' (by simp)
        -- where the elements lie
        obtain ⟨b, off, hbW, hat⟩ : ∃ b off, b < W.heap.size ∧ (m' = 0 ∨ a = ⟨b, off, none⟩) := by
          rcases Nat.eq_zero_or_pos m' with h0 | hp
          · exact ⟨0, 0, hW, .inl h0⟩
          · obtain ⟨cs', hc, _⟩ := hel 0 hp
            rw [hce] at hc
            obtain ⟨_, hlen, hcell⟩ := World.cells?_some hc
            have h0 := hcell 0 hpos
            obtain ⟨c0, hc0⟩ : ∃ c0, cs'[0]? = some c0 := ⟨_, List.getElem?_eq_getElem (by omega)⟩
            rw [hc0] at h0
            have e0 : (a.add (0 * s.cells)).add 0 = a := by simp [Addr.add]
            rw [e0] at h0
            obtain ⟨b, off, spot⟩ := a
            have hspot : spot = none := World.cell?_spot h0
            subst hspot
            exact ⟨b, off, World.block_lt_of_cell? W _ h0, .inr rfl⟩
        obtain ⟨f, hfe⟩ := choose_lt (p := fun i (cs' : List Value) => W.cells? 0 (a.add (i * s.cells)) s.cells = some cs' ∧ DataW.trod enc P W 0 (fun _ => true) true n e cs' = some (D i, Pl i)) (n := m') (fun i hi => by
          have := hel i hi; rw [hce] at this; exact this)
        obtain ⟨more, ys, rows, g1, l1, l2, k1, r1, v1⟩ := open_rows (s := s) (f := f) len os hg (fun i hi os' hg' => ih e s hf1 n os' _ _ hg' (fun _ _ _ _ => hW) (hfe i (by omega)).2)
        let o : InObj := ⟨b, off, s.cells, rows⟩
        have eo : ((os ++ more) ++ [o])[(os ++ more).length]? = some o := by simp
        have elay : inLay ((os ++ more) ++ [o]) (os ++ more).length = some ⟨b, off, s.cells, 0, false⟩ := by unfold inLay; rw [eo]; rfl
        have split : ∀ (i : Nat) (q : InObj), ((os ++ more) ++ [o])[i]? = some q → (os ++ more)[i]? = some q ∨ q = o := fun i q h => by
          rcases Nat.lt_or_ge i (os ++ more).length with hi | hi
          · rw [List.getElem?_append_left hi] at h; exact .inl h
          · rw [List.getElem?_append_right hi] at h
            right
            cases hk : i - (os ++ more).length with
            | zero => rw [hk] at h; simpa using h.symm
            | succ k => rw [hk] at h; simp at h
        refine ⟨more ++ [o], ys, [.slice (some ⟨(os ++ more).length, 0, some s.cells⟩) len 0], ?_, ?_, ?_, ?_, k1⟩
        · rw [← List.append_assoc]
          refine ⟨fun i q h => ?_, fun i q h r row hr => ?_, fun i q h r row hr j v hv => ?_⟩
          · rcases split i q h with h | rfl
            · exact g1.lt i q h
            · exact hbW
          · rcases split i q h with h | rfl
            · exact g1.len i q h r row hr
            · have hlt := (List.getElem?_eq_some_iff.1 hr).1
              have hy : ys[r]? = some ys[r] := List.getElem?_eq_getElem (by show r < ys.length; have : r < rows.length := hlt; omega)
              exact Sh.rd_len (r1 r _ row hy hr)
          · rcases split i q h with h | rfl
            · obtain ⟨V, h1, h2⟩ := g1.cell i q h r row hr j v hv
              exact ⟨V, h1, h2.mono inLay_le⟩
            · have hlt : r < rows.length := (List.getElem?_eq_some_iff.1 hr).1
              obtain ⟨hc, _⟩ := hfe r (by omega)
              obtain ⟨_, hlen, hcell⟩ := World.cells?_some hc
              have cr := v1 r row hr
              have hj : j < row.length := (List.getElem?_eq_some_iff.1 hv).1
              have hjl : j < (f r).length := by rw [← cr.len]; exact hj
              have hV : (f r)[j]? = some (f r)[j] := List.getElem?_eq_getElem hjl
              refine ⟨(f r)[j], ?_, (cr.rel j v _ hv hV).mono inLay_le⟩
              have := hcell j (by omega)
              rw [hV, add_add] at this
              rcases hat with h0 | rfl
              · omega
              · rw [add_plain, ← Nat.add_assoc] at this
                exact this
        · rw [← List.append_assoc]
          refine ⟨_, _, _, rows, rfl, .inr ⟨_, _, rfl⟩, ?_, l1, fun i x row hx hr => (r1 i x row hx hr).mono inHeap_le⟩
          unfold AHeap.rowsOf inHeap
          dsimp only
          rw [eo]
          simp [o, l2]
          exact List.take_of_length_le (by omega)
        · rw [← List.append_assoc]
          refine .one (.slice elay rfl hl ?_ (fun h => by cases h) (.inl rfl))
          rcases hat with h0 | rfl
          · exact .inl h0
          · right; simp
        · show ys.length ≤ _
          have : maxLen = 9223372036854775807 := rfl
          omega
    · rename_i fs hu
      simp only [Bool.and_eq_true, beq_iff_eq] at hf
      obtain ⟨xs, n, rfl, _, hlen, hsz, hfl⟩ := DataW.trod_struct hu hx
      have := open_fields (shapes m P) n (fun t s hq os cs x hg hz hx => ih t s hq n os cs x hg hz hx) fs.toList 0 s cs os hf.2 hg hz (by rw [hlen, hf.1]; omega) (fun f hf => by
        obtain ⟨i, hi⟩ := List.mem_iff_getElem?.1 hf
        have hi' : fs[i]? = some f := by simpa using hi
        have hlt : i < xs.length := by
          have := (Array.getElem?_eq_some_iff.1 hi').1
          omega
        exact ⟨xs[i], by rw [hfl i f hi', List.getElem?_eq_getElem hlt]⟩)
      rwa [List.drop_zero] at this
    · simp at hf
end Go.Dat
