/- A21, A22, A23, A24, A25, A26, A27, A28. -/
import Derived.Test.YtpgfjadjhliohaaGreatV19M2
import Derived.Deep.Slices
section
namespace Go.Abs
theorem bs_of {b : Bool} {x y : Prop} (h1 : b = true → x) (h2 : b = false → y) : bs b x y := by
  cases b
  · exact h2 rfl
  · exact h1 rfl
theorem bs_dec {p : Prop} [Decidable p] {x y : Prop} (h1 : p → x) (h2 : ¬ p → y) : bs (decide p) x y := bs_of (fun h => h1 (of_decide_eq_true h)) (fun h => h2 (of_decide_eq_false h))
theorem wrap_i64 {n : Int} (h : -9223372036854775808 ≤ n ∧ n ≤ 9223372036854775807) : IntKind.i64.wrap n = n := by
  have e : IntKind.i64.wrap n = if n % 18446744073709551616 ≥ 9223372036854775808 then n % 18446744073709551616 - 18446744073709551616 else n % 18446744073709551616 := by
    show (if (true && decide (n % 18446744073709551616 ≥ 9223372036854775808)) = true then _ else _) = _
    simp only [Bool.true_and, decide_eq_true_eq]
    rfl
  rw [e]
  split <;> omega
theorem wrap_u8 (n : Int) : IntKind.u8.wrap n = n % 256 := by
  have e : IntKind.u8.wrap n = if (false && decide (n % 256 ≥ 128)) = true then n % 256 - 256 else n % 256 := rfl
  rw [e]; simp
theorem rows_len {h : AHeap} {l r e n c : Nat} {rows : List (List Value)} (hr : h.rowsOf (.slice (some ⟨l, r, some e⟩) n c) = some rows) : rows.length = n := by
  unfold AHeap.rowsOf at hr
  dsimp only at hr
  split at hr
  case h_2 => cases hr
  rename_i o ho
  cases hc : (o.esz == e && decide (r + n ≤ o.rows.length)) with
  | false => rw [hc] at hr; cases hr
  | true =>
    rw [hc] at hr
    simp only [Bool.and_eq_true, decide_eq_true_eq] at hc
    obtain rfl := Option.some.inj hr
    rw [List.length_take, List.length_drop]; omega
theorem rows_ld {h : AHeap} {l r e n c k : Nat} {rows : List (List Value)} (hr : h.rowsOf (.slice (some ⟨l, r, some e⟩) n c) = some rows) {i : Nat} {row : List Value} (hi : rows[i]? = some row) (hk : row.length = k) : h.ld l (r + i) 0 k = some row := by
  unfold AHeap.rowsOf at hr
  dsimp only at hr
  split at hr
  case h_2 => cases hr
  rename_i o ho
  cases hc : (o.esz == e && decide (r + n ≤ o.rows.length)) with
  | false => rw [hc] at hr; cases hr
  | true =>
    rw [hc] at hr
    simp only [Bool.and_eq_true, decide_eq_true_eq] at hc
    obtain rfl := Option.some.inj hr
    have : o.rows[r + i]? = some row := by
      rw [List.getElem?_take] at hi
      split at hi
      · rw [List.getElem?_drop] at hi; exact hi
      · cases hi
    unfold AHeap.ld
    rw [ho]
    dsimp only
    rw [this]
    subst hk; simp
end Go.Abs
end
section
namespace Go.Abs
theorem law_calls {P : Program} {f : FuncId} {args : List Value} {h h' : AHeap} {L : Lay} {W : World} {ARGS : Array Value} (hA : ACall P f args h (.bool true) h')
    (hrel : Rel L (fun b => b < W.heap.size) (fun b => b < W.heap.size) W W h) (harg : ARel L args.toArray ARGS) :
    Calls P f ARGS W fun e W' => e = .returned (.bool true) ∧ RowKit.Below W.heap.size W W' := by
  refine (hA L _ _ W W ARGS hrel harg).mono ?_
  rintro e W' ⟨V, L', rfl, hext, hv, hr⟩
  have e1 : V = .bool true := by cases hv; rfl
  subst e1
  have k := hr.keeps
  exact ⟨rfl, k.os, k.tape, k.output, k.size, k.block⟩
structure InObj where
  blk : Nat
  base : Nat
  esz : Nat
  rows : List (List Value)
def inHeap (os : List InObj) : AHeap := ⟨os.length, fun l => (os[l]?).map fun o => ⟨o.rows, o.esz, false⟩⟩
def inLay (os : List InObj) : Lay := fun l => (os[l]?).map fun o => ⟨o.blk, o.base, o.esz, 0, false⟩
theorem in_rel {os : List InObj} {W : World} (hlt : ∀ (i : Nat) (o : InObj), os[i]? = some o → o.blk < W.heap.size) (hlen : ∀ (i : Nat) (o : InObj), os[i]? = some o → ∀ (r : Nat) (row : List Value), o.rows[r]? = some row → row.length = o.esz)
    (hcell : ∀ (i : Nat) (o : InObj), os[i]? = some o → ∀ (r : Nat) (row : List Value), o.rows[r]? = some row → ∀ (j : Nat) (v : Value), row[j]? = some v → ∃ V, W.cell? ⟨o.blk, o.base + r * o.esz + j, none⟩ = some V ∧ VRel (inLay os) v V) :
    Rel (inLay os) (fun b => b < W.heap.size) (fun b => b < W.heap.size) W W (inHeap os) := by
  have key : ∀ l o s, (inHeap os).get l = some o → inLay os l = some s → ∃ q, os[l]? = some q ∧ o = ⟨q.rows, q.esz, false⟩ ∧ s = ⟨q.blk, q.base, q.esz, 0, false⟩ := by
    intro l o s h1 h2
    unfold inHeap at h1
    unfold inLay at h2
    dsimp only at h1
    cases hq : os[l]? with
    | none => rw [hq] at h1; cases h1
    | some q => rw [hq] at h1 h2; exact ⟨q, rfl, (Option.some.inj h1).symm, (Option.some.inj h2).symm⟩
  refine ⟨Keeps.refl _ _, fun b h => h, fun b h => h, ?_, ?_, ?_, ?_, ?_, ?_⟩
  · intro l hl
    show (os[l]?).map _ = none
    rw [List.getElem?_eq_none hl]; rfl
  · intro l hl
    show (os[l]?).map _ = none
    rw [List.getElem?_eq_none hl]; rfl
  · intro l o s h1 h2
    obtain ⟨q, hq, rfl, rfl⟩ := key l o s h1 h2
    exact ⟨rfl, rfl, hlt l q hq, hlen l q hq, hcell l q hq, fun h => by cases h⟩
  · intro l o s h1 h2 h3
    obtain ⟨q, hq, rfl, rfl⟩ := key l o s h1 h2
    cases h3
  · intro l o s h1 h2 h3
    obtain ⟨q, hq, rfl, rfl⟩ := key l o s h1 h2
    exact hlt l q hq
  · intro l l' o o' s s' h1 h1' h2 h2' h3
    obtain ⟨q, hq, rfl, rfl⟩ := key l o s h1 h2
    cases h3
end Go.Abs
end
section
namespace Go.Abs
def AHeap.wf (h : AHeap) : Prop := ∀ l, h.n ≤ l → h.get l = none
structure AHeap.Le (h h' : AHeap) : Prop where
  n : h.n ≤ h'.n
  get : ∀ l o, h.get l = some o → h'.get l = some o
theorem AHeap.Le.refl (h : AHeap) : h.Le h := ⟨Nat.le_refl _, fun _ _ e => e⟩
theorem AHeap.Le.trans {a b c : AHeap} (x : a.Le b) (y : b.Le c) : a.Le c := ⟨Nat.le_trans x.n y.n, fun l o e => y.get l o (x.get l o e)⟩
theorem AHeap.wf.lt {h : AHeap} (w : h.wf) {l : Nat} {o : AObj} (e : h.get l = some o) : l < h.n := by
  rcases Nat.lt_or_ge l h.n with hl | hl
  · exact hl
  · rw [w l hl] at e; cases e
theorem AHeap.wf.push {h : AHeap} (w : h.wf) (o : AObj) : (h.push o).wf := fun l hl => by
  have hl' : h.n + 1 ≤ l := hl
  rw [AHeap.get_push_ne (by omega)]; exact w l (by omega)
theorem AHeap.Le.push {h : AHeap} (w : h.wf) (o : AObj) : h.Le (h.push o) := ⟨Nat.le_succ _, fun l x e => by
  rw [AHeap.get_push_ne (Nat.ne_of_lt (w.lt e))]; exact e⟩
theorem AHeap.wf.put {h : AHeap} (w : h.wf) {l : Nat} (hl : l < h.n) (o : Option AObj) : (h.put l o).wf := fun x hx => by
  have hx' : h.n ≤ x := hx
  rw [AHeap.get_put_ne (by omega)]; exact w x hx'
theorem AHeap.Le.put {a h : AHeap} (x : a.Le h) {l : Nat} (hl : a.get l = none) (o : Option AObj) : a.Le (h.put l o) := ⟨x.n, fun y q e => by
  have : y ≠ l := fun e' => by subst e'; rw [hl] at e; cases e
  rw [AHeap.get_put_ne this]; exact x.get y q e⟩
theorem AHeap.Le.ld {h h' : AHeap} (x : h.Le h') {l r c n : Nat} {vs : List Value} (e : h.ld l r c n = some vs) : h'.ld l r c n = some vs := by
  unfold AHeap.ld at e ⊢
  split at e
  · rename_i o ho; rw [x.get l o ho]; exact e
  · cases e
theorem AHeap.Le.rowsOf {h h' : AHeap} (x : h.Le h') {v : Value} {rows : List (List Value)} (e : h.rowsOf v = some rows) : h'.rowsOf v = some rows := by
  unfold AHeap.rowsOf at e ⊢
  split at e
  · exact e
  · rename_i l r e' n c
    split at e
    · rename_i o ho; rw [x.get l o ho]; exact e
    · cases e
  · cases e
def PCall (P : Program) (f : FuncId) (args : List Value) (h : AHeap) (Q : Value → AHeap → Prop) : Prop := ∃ v h', ACall P f args h v h' ∧ h.Le h' ∧ h'.wf ∧ Q v h'
end Go.Abs
end
section
namespace Go.Dat
open Go.Abs
open Go.ChangeShapes Go.WideShapes Go.Deep
inductive Sh where
  | int | bool | str | byte
  | pair (a b : Sh)
  | sl (e : Sh)
@[reducible] def Sh.T : Sh → Type
  | .int => Int
  | .bool => Bool
  | .str => ByteArray
  | .byte => Int
  | .pair a b => a.T × b.T
  | .sl e => List e.T
def Sh.cells : Sh → Nat
  | .int => 1
  | .bool => 1
  | .str => 1
  | .byte => 1
  | .pair a b => a.cells + b.cells
  | .sl _ => 1
def SAddr (e : Nat) (a : Option Addr) (n c : Nat) : Prop := (a = none ∧ n = 0 ∧ c = 0) ∨ ∃ l r, a = some ⟨l, r, some e⟩
def Sh.rd (h : AHeap) : (s : Sh) → s.T → List Value → Prop
  | .int, x, cs => cs = [.int .i64 x]
  | .bool, x, cs => cs = [.bool x]
  | .str, x, cs => cs = [.string x]
  | .byte, x, cs => cs = [.int .u8 x]
  | .pair a b, x, cs => ∃ c1 c2, cs = c1 ++ c2 ∧ a.rd h x.1 c1 ∧ b.rd h x.2 c2
  | .sl e, xs, cs => ∃ a n c rows, cs = [.slice a n c] ∧ SAddr e.cells a n c ∧ h.rowsOf (.slice a n c) = some rows ∧ List.length (α := e.T) xs = n ∧
      ∀ (i : Nat) (x : e.T) (row : List Value), (show List e.T from xs)[i]? = some x → rows[i]? = some row → e.rd h x row
def Sh.ok : (s : Sh) → s.T → Prop
  | .int, x => (-9223372036854775808 : Int) ≤ (show Int from x) ∧ (show Int from x) ≤ 9223372036854775807
  | .bool, _ => True
  | .str, x => ByteArray.size x ≤ 9223372036854775807
  | .byte, x => (0 : Int) ≤ (show Int from x) ∧ (show Int from x) ≤ 255
  | .pair a b, x => a.ok x.1 ∧ b.ok x.2
  | .sl e, xs => List.length (α := e.T) xs ≤ 9223372036854775807 ∧ ∀ x ∈ (show List e.T from xs), e.ok x
def Sl (h : AHeap) (s : Sh) (xs : List s.T) (v : Value) : Prop :=
  ∃ a n c rows, v = .slice a n c ∧ SAddr s.cells a n c ∧ h.rowsOf (.slice a n c) = some rows ∧ xs.length = n ∧ ∀ (i : Nat) (x : s.T) (row : List Value), xs[i]? = some x → rows[i]? = some row → s.rd h x row
theorem rd_sl {h : AHeap} {s : Sh} {xs : List s.T} {cs : List Value} : Sh.rd h (.sl s) xs cs ↔ ∃ v, cs = [v] ∧ Sl h s xs v := by
  constructor
  · rintro ⟨a, n, c, rows, rfl, h1, h2, h3, h4⟩
    exact ⟨_, rfl, a, n, c, rows, rfl, h1, h2, h3, h4⟩
  · rintro ⟨_, rfl, a, n, c, rows, rfl, h1, h2, h3, h4⟩
    exact ⟨a, n, c, rows, rfl, h1, h2, h3, h4⟩
theorem Sh.rd.mono {h h' : AHeap} (hl : h.Le h') : ∀ {s : Sh} {x : s.T} {cs : List Value}, s.rd h x cs → s.rd h' x cs := by
  intro s
  induction s with
  | int => intro x cs e; exact e
  | bool => intro x cs e; exact e
  | str => intro x cs e; exact e
  | byte => intro x cs e; exact e
  | pair a b iha ihb =>
    rintro x cs ⟨c1, c2, e, h1, h2⟩
    exact ⟨c1, c2, e, iha h1, ihb h2⟩
  | sl e ih =>
    rintro x cs ⟨a, n, c, rows, e, h1, h2, h3, h4⟩
    exact ⟨a, n, c, rows, e, h1, hl.rowsOf h2, h3, fun i x row hx hr => ih (h4 i x row hx hr)⟩
theorem Sl.mono {h h' : AHeap} (hl : h.Le h') {s : Sh} {xs : List s.T} {v : Value} (x : Sl h s xs v) : Sl h' s xs v := by
  obtain ⟨a, n, c, rows, e, h1, h2, h3, h4⟩ := x
  exact ⟨a, n, c, rows, e, h1, hl.rowsOf h2, h3, fun i x row hx hr => (h4 i x row hx hr).mono hl⟩
theorem Sh.rd_len {h : AHeap} : ∀ {s : Sh} {x : s.T} {cs : List Value}, s.rd h x cs → cs.length = s.cells := by
  intro s
  induction s with
  | int => rintro x cs rfl; rfl
  | bool => rintro x cs rfl; rfl
  | str => rintro x cs rfl; rfl
  | byte => rintro x cs rfl; rfl
  | pair a b iha ihb =>
    rintro x cs ⟨c1, c2, rfl, h1, h2⟩
    rw [List.length_append, iha h1, ihb h2]; rfl
  | sl e ih =>
    rintro x cs ⟨a, n, c, rows, rfl, h1, h2, h3, h4⟩
    rfl
theorem rowsOf_len {h : AHeap} {e : Nat} {a : Option Addr} {n c : Nat} {rows : List (List Value)} (ha : SAddr e a n c) (hr : h.rowsOf (.slice a n c) = some rows) : rows.length = n := by
  rcases ha with ⟨rfl, rfl, rfl⟩ | ⟨l, r, rfl⟩
  · have : some [] = some rows := hr
    cases this; rfl
  · exact rows_len hr
theorem Sl.elem {h : AHeap} {s : Sh} {xs : List s.T} {a : Option Addr} {n c : Nat} (x : Sl h s xs (.slice a n c)) {i : Nat} {y : s.T} (hy : xs[i]? = some y) :
    ∃ l r row, a = some ⟨l, r, some s.cells⟩ ∧ i < n ∧ s.rd h y row ∧ h.ld l (r + i) 0 s.cells = some row := by
  obtain ⟨a', n', c', rows, e, h1, h2, h3, h4⟩ := x
  cases e
  have hi : i < xs.length := (List.getElem?_eq_some_iff.1 hy).1
  have hlen := rowsOf_len h1 h2
  rcases h1 with ⟨rfl, rfl, rfl⟩ | ⟨l, r, rfl⟩
  · omega
  · have hr : rows[i]? = some rows[i] := List.getElem?_eq_getElem (by omega)
    have := h4 i y _ hy hr
    exact ⟨l, r, rows[i], rfl, by omega, this, rows_ld h2 hr (Sh.rd_len this)⟩
theorem Sl.len {h : AHeap} {s : Sh} {xs : List s.T} {a : Option Addr} {n c : Nat} (x : Sl h s xs (.slice a n c)) : xs.length = n := by
  obtain ⟨a', n', c', rows, e, h1, h2, h3, h4⟩ := x
  cases e; exact h3
theorem Sl.isSlice {h : AHeap} {s : Sh} {xs : List s.T} {v : Value} (x : Sl h s xs v) : ∃ a c, v = .slice a xs.length c := by
  obtain ⟨a', n', c', rows, rfl, h1, h2, h3, h4⟩ := x
  exact ⟨a', c', by rw [h3]⟩
def shapesF (q : TypeId → Sh → Bool) (P : Program) : List Field → Nat → Sh → Bool
  | [f], off, s => f.offset == off && P.cellsOf f.type == s.cells && q f.type s
  | f :: g :: fs, off, .pair a b => f.offset == off && P.cellsOf f.type == a.cells && q f.type a && shapesF q P (g :: fs) (off + a.cells) b
  | _, _, _ => false
def shapes : Nat → Program → TypeId → Sh → Bool
  | 0, _, _, _ => false
  | n + 1, P, t, s => match P.underlying t with
    | some .bool => (match s with | .bool => true | _ => false)
    | some (.int .i64) => (match s with | .int => true | _ => false)
    | some .string => (match s with | .str => true | _ => false)
    | some (.int .u8) => (match s with | .byte => true | _ => false)
    | some (.slice e) => (match s with | .sl s => shapes n P e s && P.cellsOf e == s.cells && decide (0 < s.cells) | _ => false)
    | some (.struct fs) => P.cellsOf t == s.cells && shapesF (shapes n P) P fs.toList 0 s
    | _ => false
structure IGood (W : World) (os : List InObj) : Prop where
  lt : ∀ (i : Nat) (o : InObj), os[i]? = some o → o.blk < W.heap.size
  len : ∀ (i : Nat) (o : InObj), os[i]? = some o → ∀ (r : Nat) (row : List Value), o.rows[r]? = some row → row.length = o.esz
  cell : ∀ (i : Nat) (o : InObj), os[i]? = some o → ∀ (r : Nat) (row : List Value), o.rows[r]? = some row → ∀ (j : Nat) (v : Value), row[j]? = some v → ∃ V, W.cell? ⟨o.blk, o.base + r * o.esz + j, none⟩ = some V ∧ VRel (inLay os) v V
theorem IGood.nil {W : World} : IGood W [] := ⟨fun i o h => by simp at h, fun i o h => by simp at h, fun i o h => by simp at h⟩
theorem IGood.rel {W : World} {os : List InObj} (g : IGood W os) : Rel (inLay os) (fun b => b < W.heap.size) (fun b => b < W.heap.size) W W (inHeap os) := in_rel g.lt g.len g.cell
theorem getElem?_append_of {α : Type} {l m : List α} {i : Nat} {x : α} (h : l[i]? = some x) : (l ++ m)[i]? = some x := by
  rw [List.getElem?_append_left (List.getElem?_eq_some_iff.1 h).1]; exact h
theorem inLay_le {os more : List InObj} : (inLay os).le (inLay (os ++ more)) := by
  intro l s h
  unfold inLay at h ⊢
  rw [Option.map_eq_some_iff] at h ⊢
  obtain ⟨o, ho, e⟩ := h
  exact ⟨o, getElem?_append_of ho, e⟩
theorem inHeap_le {os more : List InObj} : (inHeap os).Le (inHeap (os ++ more)) := by
  refine ⟨?_, ?_⟩
  · show os.length ≤ (os ++ more).length
    simp
  · intro l s h
    unfold inHeap at h ⊢
    dsimp only at h ⊢
    rw [Option.map_eq_some_iff] at h ⊢
    obtain ⟨o, ho, e⟩ := h
    exact ⟨o, getElem?_append_of ho, e⟩
theorem inHeap_wf {os : List InObj} : (inHeap os).wf := by
  intro l hl
  show (os[l]?).map _ = none
  rw [List.getElem?_eq_none hl]; rfl
structure CRel (L : Lay) (acs cs : List Value) : Prop where
  len : acs.length = cs.length
  rel : ∀ (i : Nat) (v V : Value), acs[i]? = some v → cs[i]? = some V → VRel L v V
theorem CRel.one {L : Lay} {v V : Value} (h : VRel L v V) : CRel L [v] [V] := ⟨rfl, fun i a b ha hb => by
  cases i with
  | zero => simp at ha hb; subst ha; subst hb; exact h
  | succ i => simp at ha⟩
theorem CRel.mono {L L' : Lay} (hl : L.le L') {a b : List Value} (h : CRel L a b) : CRel L' a b := ⟨h.len, fun i v V h1 h2 => (h.rel i v V h1 h2).mono hl⟩
theorem CRel.append {L : Lay} {a b a' b' : List Value} (h : CRel L a b) (h' : CRel L a' b') : CRel L (a ++ a') (b ++ b') := by
  refine ⟨by rw [List.length_append, List.length_append, h.len, h'.len], fun i v V h1 h2 => ?_⟩
  have e := h.len
  rcases Nat.lt_or_ge i a.length with hi | hi
  · rw [List.getElem?_append_left hi] at h1
    rw [List.getElem?_append_left (by omega)] at h2
    exact h.rel i v V h1 h2
  · rw [List.getElem?_append_right hi] at h1
    rw [List.getElem?_append_right (by omega), ← e] at h2
    exact h'.rel _ v V h1 h2
def Opened (W : World) (os : List InObj) (s : Sh) (cs : List Value) : Prop :=
  ∃ (more : List InObj) (y : s.T) (acs : List Value), IGood W (os ++ more) ∧ s.rd (inHeap (os ++ more)) y acs ∧ CRel (inLay (os ++ more)) acs cs ∧ s.ok y
variable {H : Type} {enc : TypeId × Value → H} {P : Program} {W : World}
theorem open_fields (q : TypeId → Sh → Bool) (fuel : Nat)
    (hq : ∀ (t : TypeId) (s : Sh), q t s = true → ∀ (os : List InObj) (cs : List Value) (x : DataW H × List MemPlace), IGood W os → (∀ a n c, Value.slice (some a) n c ∈ cs → 0 < W.heap.size) →
      DataW.trod enc P W 0 (fun _ => true) true fuel t cs = some x → Opened W os s cs) :
    ∀ (fs : List Field) (off : Nat) (s : Sh) (all : List Value) (os : List InObj), shapesF q P fs off s = true → IGood W os → (∀ a n c, Value.slice (some a) n c ∈ all → 0 < W.heap.size) → all.length = off + s.cells →
      (∀ f ∈ fs, ∃ x, DataW.trod enc P W 0 (fun _ => true) true fuel f.type ((all.drop f.offset).take (P.cellsOf f.type)) = some x) → Opened W os s (all.drop off) := by
  intro fs
  induction fs with
  | nil => intro off s all os h; simp [shapesF] at h
  | cons f fs ih =>
    intro off s all os hf hg hz hlen hx
    cases fs with
    | nil =>
      simp only [shapesF, Bool.and_eq_true, beq_iff_eq] at hf
      obtain ⟨⟨e1, e2⟩, e3⟩ := hf
      obtain ⟨x, hx⟩ := hx f (by simp)
      rw [e1, e2, List.take_of_length_le (by rw [List.length_drop]; omega)] at hx
      exact hq f.type s e3 os _ x hg (fun a n c h => hz a n c (List.mem_of_mem_drop h)) hx
    | cons g fs =>
      cases s with
      | pair a b =>
        simp only [shapesF, Bool.and_eq_true, beq_iff_eq] at hf
        obtain ⟨⟨⟨e1, e2⟩, e3⟩, e4⟩ := hf
        have hlen' : all.length = off + (a.cells + b.cells) := hlen
        obtain ⟨x, hx1⟩ := hx f (by simp)
        rw [e1, e2] at hx1
        obtain ⟨m1, y1, c1, g1, r1, v1, k1⟩ := hq f.type a e3 os _ x hg (fun a n c h => hz a n c (List.mem_of_mem_drop (List.mem_of_mem_take h))) hx1
        obtain ⟨m2, y2, c2, g2, r2, v2, k2⟩ := ih (off + a.cells) b all (os ++ m1) e4 g1 hz (by omega) (fun f' hf' => hx f' (List.mem_cons_of_mem _ hf'))
        refine ⟨m1 ++ m2, (y1, y2), c1 ++ c2, by rw [← List.append_assoc]; exact g2, ⟨c1, c2, rfl, ?_, ?_⟩, ?_, k1, k2⟩
        · rw [← List.append_assoc]; exact r1.mono inHeap_le
        · rw [← List.append_assoc]; exact r2
        · rw [← List.append_assoc]
          have : all.drop off = (all.drop off).take a.cells ++ all.drop (off + a.cells) := by rw [← List.drop_drop, List.take_append_drop]
          rw [this]
          exact (v1.mono inLay_le).append v2
      | _ => simp [shapesF] at hf
theorem open_rows {s : Sh} {f : Nat → List Value} : ∀ (n : Nat) (os : List InObj), IGood W os →
    (∀ i, i < n → ∀ os, IGood W os → Opened W os s (f i)) →
    ∃ (more : List InObj) (ys : List s.T) (rows : List (List Value)), IGood W (os ++ more) ∧ ys.length = n ∧ rows.length = n ∧ (∀ y ∈ ys, s.ok y) ∧
      (∀ (i : Nat) (y : s.T) (row : List Value), ys[i]? = some y → rows[i]? = some row → s.rd (inHeap (os ++ more)) y row) ∧ ∀ (i : Nat) (row : List Value), rows[i]? = some row → CRel (inLay (os ++ more)) row (f i) := by
  intro n
  induction n with
  | zero => intro os hg _; exact ⟨[], [], [], by simpa using hg, rfl, rfl, by simp, fun i y row h => by simp at h, fun i row h => by simp at h⟩
  | succ n ih =>
    intro os hg hx
    obtain ⟨m1, ys, rows, g1, l1, l2, k1, r1, v1⟩ := ih os hg (fun i hi => hx i (by omega))
    obtain ⟨m2, y, row, g2, r2, v2, k2⟩ := hx n (by omega) _ g1
    refine ⟨m1 ++ m2, ys ++ [y], rows ++ [row], by rw [← List.append_assoc]; exact g2, by simp [l1], by simp [l2], ?_, ?_, ?_⟩
    · intro z hz
      rcases List.mem_append.1 hz with hz | hz
      · exact k1 z hz
      · rw [List.mem_singleton.1 hz]; exact k2
    · intro i z rw' hz hr
      rw [← List.append_assoc]
      rcases Nat.lt_or_ge i n with hi | hi
      · rw [List.getElem?_append_left (by omega)] at hz hr
        exact (r1 i z rw' hz hr).mono inHeap_le
      · have hin : i = n := by
          have := (List.getElem?_eq_some_iff.1 hz).1
          simp [l1] at this; omega
        subst hin
        rw [List.getElem?_append_right (by omega), l1, Nat.sub_self] at hz
        rw [List.getElem?_append_right (by omega), l2, Nat.sub_self] at hr
        cases hz; cases hr
        exact r2
    · intro i rw' hr
      rw [← List.append_assoc]
      rcases Nat.lt_or_ge i n with hi | hi
      · rw [List.getElem?_append_left (by omega)] at hr
        exact (v1 i rw' hr).mono inLay_le
      · have hin : i = n := by
          have := (List.getElem?_eq_some_iff.1 hr).1
          simp [l2] at this; omega
        subst hin
        rw [List.getElem?_append_right (by omega), l2, Nat.sub_self] at hr
        cases hr
        exact v2
theorem wf_i64 {n : Int} (h : (Lit.int .i64 n).wf = true) : -9223372036854775808 ≤ n ∧ n ≤ 9223372036854775807 := by
  have h2 : (IntKind.i64.min ≤ n && n ≤ IntKind.i64.max) = true := h
  simp only [Bool.and_eq_true, decide_eq_true_eq] at h2
  have e1 : IntKind.i64.min = -9223372036854775808 := by decide
  have e2 : IntKind.i64.max = 9223372036854775807 := by decide
  rw [e1, e2] at h2
  exact h2
theorem wf_u8 {n : Int} (h : (Lit.int .u8 n).wf = true) : 0 ≤ n ∧ n ≤ 255 := by
  have h2 : (IntKind.u8.min ≤ n && n ≤ IntKind.u8.max) = true := h
  simp only [Bool.and_eq_true, decide_eq_true_eq] at h2
  have e1 : IntKind.u8.min = 0 := by decide
  have e2 : IntKind.u8.max = 255 := by decide
  rw [e1, e2] at h2
  exact h2
theorem open_sh : ∀ (m : Nat) (t : TypeId) (s : Sh), shapes m P t s = true → ∀ (fuel : Nat) (os : List InObj) (cs : List Value) (x : DataW H × List MemPlace), IGood W os → (∀ a n c, Value.slice (some a) n c ∈ cs → 0 < W.heap.size) →
    DataW.trod enc P W 0 (fun _ => true) true fuel t cs = some x → Opened W os s cs := by
  intro m
  induction m with
  | zero => intro t s h; simp [shapes] at h
  | succ m ih =>
    intro t s hf fuel os cs x hg hz hx
    unfold shapes at hf
    split at hf
    · rename_i hu
      cases s <;> simp at hf
      obtain ⟨b, rfl, rfl⟩ := DataW.trod_bool hu hx
      exact ⟨[], b, [.bool b], by simpa using hg, rfl, .one (.bool b), trivial⟩
    · rename_i hu
      cases s <;> simp at hf
      obtain ⟨n, rfl, rfl, hw⟩ := DataW.trod_int hu hx
      exact ⟨[], n, [.int .i64 n], by simpa using hg, rfl, .one (.int _ n), wf_i64 hw⟩
    · rename_i hu
      cases s <;> simp at hf
      obtain ⟨n, rfl, rfl, hw⟩ := DataW.trod_string hu hx
      exact ⟨[], n, [.string n], by simpa using hg, rfl, .one (.string n), hw⟩
    · rename_i hu
      cases s <;> simp at hf
      obtain ⟨n, rfl, rfl, hw⟩ := DataW.trod_int hu hx
      exact ⟨[], n, [.int .u8 n], by simpa using hg, rfl, .one (.int _ n), wf_u8 hw⟩
    · rename_i e hu
      cases s <;> simp at hf
      rename_i s
      obtain ⟨⟨hf1, hce⟩, hpos⟩ := hf
      rcases open_slice hu hx with ⟨rfl, rfl⟩ | ⟨a, len, cap, m', n, D, Pl, rfl, hb, hl, hm, hmm, rfl, hel⟩
      · exact ⟨[], [], [.slice none 0 0], by simpa using hg, ⟨none, 0, 0, [], rfl, .inl ⟨rfl, rfl, rfl⟩, rfl, rfl, fun i x row h => by simp at h⟩, .one .sliceN, Nat.zero_le _, fun x h => by simp at h⟩
      · have hmm : m' = cap := by simpa using hmm
        subst hmm
        have hW := hz a len m' (by simp)
        -- where the elements lie
        obtain ⟨b, off, hbW, hat⟩ : ∃ b off, b < W.heap.size ∧ (m' = 0 ∨ a = ⟨b, off, none⟩) := by
          rcases Nat.eq_zero_or_pos m' with h0 | hp
          · exact ⟨0, 0, hW, .inl h0⟩
          · obtain ⟨cs', hc, _⟩ := hel 0 hp
            rw [hce] at hc
            obtain ⟨_, hlen, hcell⟩ := World.cells?_some hc
            have h0 := hcell 0 hpos
            obtain ⟨c0, hc0⟩ : ∃ c0, cs'[0]? = some c0 := ⟨_, List.getElem?_eq_getElem (by omega)⟩
            rw [hc0] at h0
            have e0 : (a.add (0 * s.cells)).add 0 = a := by simp [Addr.add]
            rw [e0] at h0
            obtain ⟨b, off, spot⟩ := a
            have hspot : spot = none := World.cell?_spot h0
            subst hspot
            exact ⟨b, off, World.block_lt_of_cell? W _ h0, .inr rfl⟩
        obtain ⟨f, hfe⟩ := choose_lt (p := fun i (cs' : List Value) => W.cells? 0 (a.add (i * s.cells)) s.cells = some cs' ∧ DataW.trod enc P W 0 (fun _ => true) true n e cs' = some (D i, Pl i)) (n := m') (fun i hi => by
          have := hel i hi; rw [hce] at this; exact this)
        obtain ⟨more, ys, rows, g1, l1, l2, k1, r1, v1⟩ := open_rows (s := s) (f := f) len os hg (fun i hi os' hg' => ih e s hf1 n os' _ _ hg' (fun _ _ _ _ => hW) (hfe i (by omega)).2)
        let o : InObj := ⟨b, off, s.cells, rows⟩
        have eo : ((os ++ more) ++ [o])[(os ++ more).length]? = some o := by simp
        have elay : inLay ((os ++ more) ++ [o]) (os ++ more).length = some ⟨b, off, s.cells, 0, false⟩ := by unfold inLay; rw [eo]; rfl
        have split : ∀ (i : Nat) (q : InObj), ((os ++ more) ++ [o])[i]? = some q → (os ++ more)[i]? = some q ∨ q = o := fun i q h => by
          rcases Nat.lt_or_ge i (os ++ more).length with hi | hi
          · rw [List.getElem?_append_left hi] at h; exact .inl h
          · rw [List.getElem?_append_right hi] at h
            right
            cases hk : i - (os ++ more).length with
            | zero => rw [hk] at h; simpa using h.symm
            | succ k => rw [hk] at h; simp at h
        refine ⟨more ++ [o], ys, [.slice (some ⟨(os ++ more).length, 0, some s.cells⟩) len 0], ?_, ?_, ?_, ?_, k1⟩
        · rw [← List.append_assoc]
          refine ⟨fun i q h => ?_, fun i q h r row hr => ?_, fun i q h r row hr j v hv => ?_⟩
          · rcases split i q h with h | rfl
            · exact g1.lt i q h
            · exact hbW
          · rcases split i q h with h | rfl
            · exact g1.len i q h r row hr
            · have hlt := (List.getElem?_eq_some_iff.1 hr).1
              have hy : ys[r]? = some ys[r] := List.getElem?_eq_getElem (by show r < ys.length; have : r < rows.length := hlt; omega)
              exact Sh.rd_len (r1 r _ row hy hr)
          · rcases split i q h with h | rfl
            · obtain ⟨V, h1, h2⟩ := g1.cell i q h r row hr j v hv
              exact ⟨V, h1, h2.mono inLay_le⟩
            · have hlt : r < rows.length := (List.getElem?_eq_some_iff.1 hr).1
              obtain ⟨hc, _⟩ := hfe r (by omega)
              obtain ⟨_, hlen, hcell⟩ := World.cells?_some hc
              have cr := v1 r row hr
              have hj : j < row.length := (List.getElem?_eq_some_iff.1 hv).1
              have hjl : j < (f r).length := by rw [← cr.len]; exact hj
              have hV : (f r)[j]? = some (f r)[j] := List.getElem?_eq_getElem hjl
              refine ⟨(f r)[j], ?_, (cr.rel j v _ hv hV).mono inLay_le⟩
              have := hcell j (by omega)
              rw [hV, add_add] at this
              rcases hat with h0 | rfl
              · omega
              · rw [add_plain, ← Nat.add_assoc] at this
                exact this
        · rw [← List.append_assoc]
          refine ⟨_, _, _, rows, rfl, .inr ⟨_, _, rfl⟩, ?_, l1, fun i x row hx hr => (r1 i x row hx hr).mono inHeap_le⟩
          unfold AHeap.rowsOf inHeap
          dsimp only
          rw [eo]
          simp [o, l2]
          exact List.take_of_length_le (by omega)
        · rw [← List.append_assoc]
          refine .one (.slice elay rfl hl ?_ (fun h => by cases h) (.inl rfl))
          rcases hat with h0 | rfl
          · exact .inl h0
          · right; simp
        · show ys.length ≤ _
          have : maxLen = 9223372036854775807 := rfl
          omega
    · rename_i fs hu
      simp only [Bool.and_eq_true, beq_iff_eq] at hf
      obtain ⟨xs, n, rfl, _, hlen, hsz, hfl⟩ := DataW.trod_struct hu hx
      have := open_fields (shapes m P) n (fun t s hq os cs x hg hz hx => ih t s hq n os cs x hg hz hx) fs.toList 0 s cs os hf.2 hg hz (by rw [hlen, hf.1]; omega) (fun f hf => by
        obtain ⟨i, hi⟩ := List.mem_iff_getElem?.1 hf
        have hi' : fs[i]? = some f := by simpa using hi
        have hlt : i < xs.length := by
          have := (Array.getElem?_eq_some_iff.1 hi').1
          omega
        exact ⟨xs[i], by rw [hfl i f hi', List.getElem?_eq_getElem hlt]⟩)
      rwa [List.drop_zero] at this
    · simp at hf
end Go.Dat
end
section
namespace Go.Dat
open Go.Abs
def szL {α : Type} (f : α → Int → Int) : List α → Int → Int
  | [], l => l
  | x :: xs, l => if f x l < 0 then -1 else szL f xs (f x l)
def Sh.sz : (s : Sh) → s.T → Int → Int
  | .int, _, l => l
  | .bool, _, l => l
  | .byte, _, l => l
  | .str, x, l => if l - (ByteArray.size x : Int) < 0 then -1 else l - (ByteArray.size x : Int)
  | .pair a b, x, l => if a.sz x.1 l < 0 then -1 else b.sz x.2 (a.sz x.1 l)
  | .sl e, xs, l => if l - (List.length (α := e.T) xs : Int) < 0 then -1 else szL (α := e.T) e.sz xs (l - (List.length (α := e.T) xs : Int))
def Sh.small : (s : Sh) → s.T → Prop
  | .int, _ => True
  | .bool, _ => True
  | .byte, _ => True
  | .str, x => ByteArray.size x ≤ 1048576
  | .pair a b, x => a.small x.1 ∧ b.small x.2
  | .sl e, xs => List.length (α := e.T) xs ≤ 1048576 ∧ ∀ x ∈ (show List e.T from xs), e.small x
theorem szL_le {α : Type} {f : α → Int → Int} (hf : ∀ x l, 0 ≤ l → -1 ≤ f x l ∧ f x l ≤ l) : ∀ (xs : List α) (l : Int), 0 ≤ l → -1 ≤ szL f xs l ∧ szL f xs l ≤ l := by
  intro xs
  induction xs with
  | nil => intro l h; exact ⟨by unfold szL; omega, Int.le_refl _⟩
  | cons x xs ih =>
    intro l h
    have := hf x l h
    unfold szL
    split
    · omega
    · have := ih (f x l) (by omega); omega
theorem Sh.sz_le : ∀ (s : Sh) (x : s.T) (l : Int), 0 ≤ l → -1 ≤ s.sz x l ∧ s.sz x l ≤ l := by
  intro s
  induction s with
  | int => intro x l h; exact ⟨by show -1 ≤ l; omega, Int.le_refl _⟩
  | bool => intro x l h; exact ⟨by show -1 ≤ l; omega, Int.le_refl _⟩
  | byte => intro x l h; exact ⟨by show -1 ≤ l; omega, Int.le_refl _⟩
  | str =>
    intro x l h; unfold Sh.sz
    split <;> omega
  | pair a b iha ihb =>
    intro x l h; unfold Sh.sz
    have := iha x.1 l h
    split
    · omega
    · have := ihb x.2 (a.sz x.1 l) (by omega); omega
  | sl e ih =>
    intro x l h; unfold Sh.sz
    split
    · omega
    · have := szL_le ih x (l - (List.length (α := e.T) x : Int)) (by omega); omega
theorem szL_fits {α : Type} {f : α → Int → Int} {q : α → Prop} (hle : ∀ x l, 0 ≤ l → -1 ≤ f x l ∧ f x l ≤ l) (hf : ∀ x l, 0 ≤ l → l ≤ 1048576 → 0 ≤ f x l → q x) : ∀ (xs : List α) (l : Int), 0 ≤ l → l ≤ 1048576 → 0 ≤ szL f xs l → ∀ x ∈ xs, q x := by
  intro xs
  induction xs with
  | nil => intro l _ _ _ x h; simp at h
  | cons x xs ih =>
    intro l h0 h1 h2 y hy
    unfold szL at h2
    split at h2
    · omega
    · rename_i hn
      have := hle x l h0
      rcases List.mem_cons.1 hy with rfl | hy
      · exact hf y l h0 h1 (by omega)
      · exact ih (f x l) (by omega) (by omega) h2 y hy
theorem Sh.sz_small : ∀ (s : Sh) (x : s.T) (l : Int), 0 ≤ l → l ≤ 1048576 → 0 ≤ s.sz x l → s.small x := by
  intro s
  induction s with
  | int => intro _ _ _ _ _; trivial
  | bool => intro _ _ _ _ _; trivial
  | byte => intro _ _ _ _ _; trivial
  | str =>
    intro x l h0 h1 h2
    unfold Sh.sz at h2
    split at h2
    · omega
    · show ByteArray.size x ≤ 1048576; omega
  | pair a b iha ihb =>
    intro x l h0 h1 h2
    unfold Sh.sz at h2
    have := a.sz_le x.1 l h0
    split at h2
    · omega
    · exact ⟨iha x.1 l h0 h1 (by omega), ihb x.2 _ (by omega) (by omega) h2⟩
  | sl e ih =>
    intro x l h0 h1 h2
    unfold Sh.sz at h2
    split at h2
    · omega
    · exact ⟨by show List.length (α := e.T) x ≤ _; omega, szL_fits e.sz_le ih x _ (by omega) (by omega) h2⟩
def Sh.ro (h : AHeap) : (s : Sh) → s.T → List Value → List Nat → Prop
  | .int, x, cs, ids => cs = [.int .i64 x] ∧ ids = []
  | .bool, x, cs, ids => cs = [.bool x] ∧ ids = []
  | .str, x, cs, ids => cs = [.string x] ∧ ids = []
  | .byte, x, cs, ids => cs = [.int .u8 x] ∧ ids = []
  | .pair a b, x, cs, ids => ∃ c1 c2 i1 i2, cs = c1 ++ c2 ∧ ids = i1 ++ i2 ∧ a.ro h x.1 c1 i1 ∧ b.ro h x.2 c2 i2
  | .sl e, xs, cs, ids => ∃ a n c, cs = [.slice a n c] ∧ SAddr e.cells a n c ∧ List.length (α := e.T) xs = n ∧
      ((n = 0 ∧ ids = [] ∧ h.rowsOf (.slice a n c) = some []) ∨ ∃ l r rows idss, a = some ⟨l, r, some e.cells⟩ ∧ h.get l = some ⟨rows, e.cells, true⟩ ∧ r + n ≤ rows.length ∧ List.length (α := List Nat) idss = n ∧ ids = l :: idss.flatten ∧
        ∀ (i : Nat) (x : e.T) (row : List Value) (js : List Nat), (show List e.T from xs)[i]? = some x → rows[r + i]? = some row → idss[i]? = some js → e.ro h x row js)
def So (h : AHeap) (s : Sh) (xs : List s.T) (v : Value) (ids : List Nat) : Prop :=
  ∃ a n c, v = .slice a n c ∧ SAddr s.cells a n c ∧ xs.length = n ∧
      ((n = 0 ∧ ids = [] ∧ h.rowsOf (.slice a n c) = some []) ∨ ∃ l r rows idss, a = some ⟨l, r, some s.cells⟩ ∧ h.get l = some ⟨rows, s.cells, true⟩ ∧ r + n ≤ rows.length ∧ List.length (α := List Nat) idss = n ∧ ids = l :: idss.flatten ∧
        ∀ (i : Nat) (x : s.T) (row : List Value) (js : List Nat), xs[i]? = some x → rows[r + i]? = some row → idss[i]? = some js → s.ro h x row js)
theorem ro_sl {h : AHeap} {s : Sh} {xs : List s.T} {cs : List Value} {ids : List Nat} : Sh.ro h (.sl s) xs cs ids ↔ ∃ v, cs = [v] ∧ So h s xs v ids := by
  constructor
  · rintro ⟨a, n, c, rfl, h1⟩
    exact ⟨_, rfl, a, n, c, rfl, h1⟩
  · rintro ⟨_, rfl, a, n, c, rfl, h1⟩
    exact ⟨a, n, c, rfl, h1⟩
theorem get_rowsOf {h : AHeap} {l r e n c : Nat} {rows : List (List Value)} {b : Bool} (hg : h.get l = some ⟨rows, e, b⟩) (hr : r + n ≤ rows.length) : h.rowsOf (.slice (some ⟨l, r, some e⟩) n c) = some ((rows.drop r).take n) := by
  unfold AHeap.rowsOf
  dsimp only
  rw [hg]
  simp [hr]
theorem Sh.ro.rd {h : AHeap} : ∀ {s : Sh} {x : s.T} {cs : List Value} {ids : List Nat}, s.ro h x cs ids → s.rd h x cs := by
  intro s
  induction s with
  | int => intro x cs ids e; exact e.1
  | bool => intro x cs ids e; exact e.1
  | str => intro x cs ids e; exact e.1
  | byte => intro x cs ids e; exact e.1
  | pair a b iha ihb =>
    rintro x cs ids ⟨c1, c2, i1, i2, e, _, h1, h2⟩
    exact ⟨c1, c2, e, iha h1, ihb h2⟩
  | sl e ih =>
    rintro xs cs ids ⟨a, n, c, rfl, hs, hn, ⟨rfl, _, h1⟩ | ⟨l, r, rows, idss, rfl, hg, hr, hl, _, hx⟩⟩
    · exact ⟨a, 0, c, [], rfl, hs, h1, hn, fun i x row _ h => by simp at h⟩
    · refine ⟨_, n, c, _, rfl, hs, get_rowsOf hg hr, hn, fun i x row hi hrow => ?_⟩
      have hin : i < n := by rw [← hn]; exact (List.getElem?_eq_some_iff.1 hi).1
      rw [List.getElem?_take, if_pos hin, List.getElem?_drop] at hrow
      exact ih (hx i x row idss[i] hi hrow (List.getElem?_eq_getElem (by omega)))
theorem So.sl {h : AHeap} {s : Sh} {xs : List s.T} {v : Value} {ids : List Nat} (x : So h s xs v ids) : Sl h s xs v := by
  obtain ⟨v', e, h1⟩ := rd_sl.1 (Sh.ro.rd (ro_sl.2 ⟨v, rfl, x⟩))
  cases e; exact h1
structure Shp (h h' : AHeap) : Prop where
  n : h.n ≤ h'.n
  get : ∀ l rows e b, h.get l = some ⟨rows, e, b⟩ → ∃ rows', h'.get l = some ⟨rows', e, b⟩ ∧ rows'.length = rows.length
theorem Shp.refl (h : AHeap) : Shp h h := ⟨Nat.le_refl _, fun _ rows _ _ e => ⟨rows, e, rfl⟩⟩
theorem Shp.trans {a b c : AHeap} (x : Shp a b) (y : Shp b c) : Shp a c := ⟨Nat.le_trans x.n y.n, fun l rows e b h => by
  obtain ⟨r1, h1, e1⟩ := x.get l rows e b h
  obtain ⟨r2, h2, e2⟩ := y.get l r1 e b h1
  exact ⟨r2, h2, by rw [e2, e1]⟩⟩
theorem _root_.Go.Abs.AHeap.Le.shp {h h' : AHeap} (x : h.Le h') : Shp h h' := ⟨x.n, fun l rows e b hg => ⟨rows, x.get l _ hg, rfl⟩⟩
theorem Shp.none {h h' : AHeap} (x : Shp h h') {a : Option Addr} {c : Nat} {rows : List (List Value)} {e : Nat} (ha : SAddr e a 0 c) (hr : h.rowsOf (.slice a 0 c) = some rows) : h'.rowsOf (.slice a 0 c) = some [] := by
  rcases ha with ⟨rfl, _, rfl⟩ | ⟨l, r, rfl⟩
  · rfl
  · unfold AHeap.rowsOf at hr ⊢
    dsimp only at hr ⊢
    split at hr
    · rename_i o ho
      obtain ⟨rows', h1, h2⟩ := x.get l o.rows o.esz o.rw ho
      rw [h1]
      dsimp only
      cases hc : (o.esz == e && decide (r + 0 ≤ o.rows.length)) with
      | false => rw [hc] at hr; cases hr
      | true =>
        simp only [Bool.and_eq_true, decide_eq_true_eq] at hc
        rw [hc.1, decide_eq_true (show r + 0 ≤ rows'.length by omega)]
        simp
    · cases hr
theorem Sh.ro.frame {h h' : AHeap} (hs : Shp h h') : ∀ {s : Sh} {x : s.T} {cs : List Value} {ids : List Nat}, (∀ l ∈ ids, h'.get l = h.get l) → s.ro h x cs ids → s.ro h' x cs ids := by
  intro s
  induction s with
  | int => intro x cs ids _ e; exact e
  | bool => intro x cs ids _ e; exact e
  | str => intro x cs ids _ e; exact e
  | byte => intro x cs ids _ e; exact e
  | pair a b iha ihb =>
    rintro x cs ids hi ⟨c1, c2, i1, i2, e, rfl, h1, h2⟩
    exact ⟨c1, c2, i1, i2, e, rfl, iha (fun l hl => hi l (List.mem_append_left _ hl)) h1, ihb (fun l hl => hi l (List.mem_append_right _ hl)) h2⟩
  | sl e ih =>
    rintro xs cs ids hi ⟨a, n, c, rfl, hs', hn, ⟨rfl, e2, h1⟩ | ⟨l, r, rows, idss, rfl, hg, hr, hl, rfl, hx⟩⟩
    · exact ⟨a, 0, c, rfl, hs', hn, .inl ⟨rfl, e2, hs.none hs' h1⟩⟩
    · refine ⟨_, n, c, rfl, hs', hn, .inr ⟨l, r, rows, idss, rfl, by rw [hi l (by simp)]; exact hg, hr, hl, rfl, fun i x row js h1 h2 h3 => ih (fun q hq => hi q ?_) (hx i x row js h1 h2 h3)⟩⟩
      exact List.mem_cons_of_mem _ (List.mem_flatten.2 ⟨js, List.mem_of_getElem? h3, hq⟩)
theorem So.frame {h h' : AHeap} (hs : Shp h h') {s : Sh} {xs : List s.T} {v : Value} {ids : List Nat} (hi : ∀ l ∈ ids, h'.get l = h.get l) (x : So h s xs v ids) : So h' s xs v ids := by
  obtain ⟨v', e, h1⟩ := ro_sl.1 (Sh.ro.frame hs hi (ro_sl.2 ⟨v, rfl, x⟩))
  cases e; exact h1
structure Fresh (a b : Nat) (ids : List Nat) : Prop where
  nd : ids.Nodup
  bd : ∀ l ∈ ids, a ≤ l ∧ l < b
theorem Fresh.nil {a b : Nat} : Fresh a b [] := ⟨List.nodup_nil, fun l h => by simp at h⟩
theorem Fresh.append {a b c : Nat} {i j : List Nat} (hab : a ≤ b) (hbc : b ≤ c) (x : Fresh a b i) (y : Fresh b c j) : Fresh a c (i ++ j) :=
  ⟨List.nodup_append.2 ⟨x.nd, y.nd, fun p hp q hq e => by
      have h1 := (x.bd p hp).2
      have h2 := (y.bd q hq).1
      omega⟩, fun l hl => by
    rcases List.mem_append.1 hl with hl | hl
    · have := x.bd l hl; omega
    · have := y.bd l hl; omega⟩
theorem Fresh.one {a b : Nat} (h : a < b) : Fresh a b [a] := ⟨by simp, fun l hl => by simp at hl; omega⟩
theorem Fresh.widen {a b a' b' : Nat} {i : List Nat} (x : Fresh a b i) (h1 : a' ≤ a) (h2 : b ≤ b') : Fresh a' b' i := ⟨x.nd, fun l hl => by have := x.bd l hl; omega⟩
end Go.Dat
end
section
namespace Go.Dat
open Go.Abs
open Classical in
noncomputable def eqb {α : Type} (x y : α) : Bool := decide (x = y)
theorem eqb_self {α : Type} (x : α) : eqb x x = true := by unfold eqb; simp
theorem eqb_true {α : Type} {x y : α} (h : x = y) : true = eqb x y := by subst h; exact (eqb_self x).symm
theorem eqb_false {α : Type} {x y : α} (h : x ≠ y) : false = eqb x y := by unfold eqb; simp [h]
theorem of_eqb {α : Type} {x y : α} (h : eqb x y = true) : x = y := by unfold eqb at h; simpa using h
theorem of_eqb_false {α : Type} {x y : α} (h : eqb x y = false) : x ≠ y := by unfold eqb at h; simpa using h
theorem Sl.row {h : AHeap} {s : Sh} {xs : List s.T} {a : Option Addr} {n c : Nat} (x : Sl h s xs (.slice a n c)) : SAddr s.cells a n c ∧ ∃ rows, h.rowsOf (.slice a n c) = some rows := by
  obtain ⟨a', n', c', rows, e, h1, h2, h3, h4⟩ := x
  cases e; exact ⟨h1, rows, h2⟩
theorem ro_some {h : AHeap} : ∀ {s : Sh} {x : s.T} {cs : List Value} {ids : List Nat}, s.ro h x cs ids → ∀ {l}, l ∈ ids → h.get l ≠ none := by
  intro s
  induction s with
  | int => rintro x cs ids ⟨_, rfl⟩ l hl; simp at hl
  | bool => rintro x cs ids ⟨_, rfl⟩ l hl; simp at hl
  | str => rintro x cs ids ⟨_, rfl⟩ l hl; simp at hl
  | byte => rintro x cs ids ⟨_, rfl⟩ l hl; simp at hl
  | pair a b iha ihb =>
    rintro x cs ids ⟨c1, c2, i1, i2, e, rfl, h1, h2⟩ l hl
    rcases List.mem_append.1 hl with hl | hl
    · exact iha h1 hl
    · exact ihb h2 hl
  | sl e ih =>
    rintro xs cs ids ⟨a, n, c, rfl, hs', hn, ⟨rfl, rfl, h1⟩ | ⟨l', r, rows, idss, rfl, hg, hr, hl', rfl, hx⟩⟩ l hl
    · simp at hl
    · rcases List.mem_cons.1 hl with rfl | hl
      · rw [hg]; simp
      · obtain ⟨js, hjs, hlj⟩ := List.mem_flatten.1 hl
        obtain ⟨i, hi⟩ := List.mem_iff_getElem?.1 hjs
        have hin := (List.getElem?_eq_some_iff.1 hi).1
        have hxl : i < List.length (α := e.T) xs := by rw [hn]; omega
        exact ih (hx i _ _ js (List.getElem?_eq_getElem hxl) (List.getElem?_eq_getElem (by omega)) hi) hlj
theorem shp_put {h : AHeap} {l : Nat} {rows rows' : List (List Value)} {e : Nat} {b : Bool} (hg : h.get l = some ⟨rows, e, b⟩) (hl : rows'.length = rows.length) : Shp h (h.put l (some ⟨rows', e, b⟩)) := by
  refine ⟨Nat.le_refl _, fun l' r' e' b' hg' => ?_⟩
  by_cases hll : l' = l
  · subst hll
    rw [hg] at hg'
    cases hg'
    exact ⟨rows', AHeap.get_put_eq, hl⟩
  · exact ⟨r', by rw [AHeap.get_put_ne hll]; exact hg', rfl⟩
theorem setRange_all {a b : List Value} (h : a.length = b.length) : setRange a 0 b = b := by
  unfold setRange
  simp [h]
theorem ld_cells {h : AHeap} {l r k m z : Nat} {row : List Value} (hl : h.ld l r 0 z = some row) (hk : k + m ≤ row.length) : h.ld l r k m = some ((row.drop k).take m) := by
  unfold AHeap.ld at hl ⊢
  cases ho : h.get l with
  | none => rw [ho] at hl; cases hl
  | some o =>
    rw [ho] at hl
    dsimp only at hl ⊢
    cases hrow : o.rows[r]? with
    | none => rw [hrow] at hl; cases hl
    | some row' =>
      rw [hrow] at hl
      dsimp only at hl ⊢
      cases hc : decide (0 + z ≤ row'.length) with
      | false => rw [hc] at hl; cases hl
      | true =>
        rw [hc] at hl
        simp only [decide_eq_true_eq] at hc
        have e : row = row'.take z := by simpa using hl.symm
        subst e
        rw [List.length_take] at hk
        rw [decide_eq_true (show k + m ≤ row'.length by omega)]
        simp only [cond_true, Option.some.injEq]
        rw [List.drop_take, List.take_take, Nat.min_eq_left (by omega)]
end Go.Dat
end
section
namespace Go.Dat
open Go.Abs
structure ToI (s : Sh) (z : List Value) (n : Nat) (h : AHeap) (xs : List s.T) (i : Nat) (h1 : AHeap) (rows : List (List Value)) (idss : List (List Nat)) : Prop where
  hi : i ≤ n
  wf : h1.wf
  le : h.Le h1
  new : h.get h.n = none
  lt : h.n < h1.n
  get : h1.get h.n = some ⟨rows, s.cells, true⟩
  len : rows.length = n
  zlen : z.length = s.cells
  il : idss.length = i
  fr : Fresh (h.n + 1) h1.n idss.flatten
  done : ∀ (j : Nat) (x : s.T) (row : List Value) (js : List Nat), xs[j]? = some x → rows[j]? = some row → idss[j]? = some js → s.ro h1 x row js
  rest : ∀ j, i ≤ j → j < n → rows[j]? = some z
theorem getElem?_snoc {α : Type} {l : List α} {a b : α} {i : Nat} (h : (l ++ [a])[i]? = some b) : (i < l.length ∧ l[i]? = some b) ∨ (i = l.length ∧ b = a) := by
  rcases Nat.lt_or_ge i l.length with hi | hi
  · rw [List.getElem?_append_left hi] at h; exact .inl ⟨hi, h⟩
  · rw [List.getElem?_append_right hi] at h
    right
    cases hk : i - l.length with
    | zero => rw [hk] at h; simp at h; exact ⟨by omega, h.symm⟩
    | succ k => rw [hk] at h; simp at h
theorem ToI.step {s : Sh} {z : List Value} {n : Nat} {h : AHeap} {xs : List s.T} {i : Nat} {h1 h2 : AHeap} {rows : List (List Value)} {idss : List (List Nat)} {x : s.T} {cs : List Value} {ids : List Nat}
    (I : ToI s z n h xs i h1 rows idss) (hi : i < n) (hx : xs[i]? = some x) (hle : h1.Le h2) (hw2 : h2.wf) (hro : s.ro h2 x cs ids) (hf : Fresh h1.n h2.n ids) :
    ∃ h3, h2.wr h.n (0 + (i : Int).toNat) 0 cs = some h3 ∧ ToI s z n h xs (i + 1) h3 (rows.set i cs) (idss ++ [ids]) := by
  have hg2 := hle.get _ _ I.get
  have hz := I.rest i (Nat.le_refl _) hi
  have hcs : cs.length = s.cells := Sh.rd_len hro.rd
  refine ⟨h2.put h.n (some ⟨rows.set i cs, s.cells, true⟩), ?_, ?_⟩
  · unfold AHeap.wr
    rw [hg2]
    dsimp only
    have e : 0 + (i : Int).toNat = i := by omega
    rw [e, hz]
    have e2 : setRange z 0 cs = cs := setRange_all (by rw [I.zlen, hcs])
    simp [I.zlen, hcs, e2]
  · have shp : Shp h2 (h2.put h.n (some ⟨rows.set i cs, s.cells, true⟩)) := shp_put hg2 (by simp)
    refine ⟨hi, hw2.put (hw2.lt hg2) _, (I.le.trans hle).put I.new _, I.new, Nat.lt_of_lt_of_le I.lt hle.n, AHeap.get_put_eq, by simp [I.len], I.zlen, by simp [I.il], ?_, ?_, ?_⟩
    · rw [List.flatten_append]
      simp only [List.flatten_cons, List.flatten_nil, List.append_nil]
      exact Fresh.append (by have := I.lt; omega) hle.n I.fr hf
    · intro j y row js hy hrow hjs
      rcases getElem?_snoc hjs with ⟨hj, hjs⟩ | ⟨hj, rfl⟩
      · rw [I.il] at hj
        rw [List.getElem?_set, if_neg (by omega)] at hrow
        refine Sh.ro.frame (hle.shp.trans shp) (fun l hl => ?_) (I.done j y row js hy hrow hjs)
        have := I.fr.bd l (List.mem_flatten.2 ⟨js, List.mem_of_getElem? hjs, hl⟩)
        rw [AHeap.get_put_ne (by omega)]
        cases hq : h1.get l with
        | some o => exact hle.get l o hq
        | none => exact absurd hq (ro_some (I.done j y row js hy hrow hjs) hl)
      · rw [I.il] at hj
        subst hj
        rw [List.getElem?_set, if_pos rfl, if_pos (by rw [I.len]; exact hi)] at hrow
        cases hrow
        rw [hx] at hy
        cases hy
        refine Sh.ro.frame shp (fun l hl => ?_) hro
        have := hf.bd l hl
        have := I.lt
        rw [AHeap.get_put_ne (by omega)]
    · intro j hj hjn
      rw [List.getElem?_set, if_neg (by omega)]
      exact I.rest j (by omega) hjn
theorem ToI.start {s : Sh} {z : List Value} {n : Nat} {h : AHeap} {xs : List s.T} (hw : h.wf) (zl : z.length = s.cells) : ToI s z n h xs 0 (h.push ⟨List.replicate n z, s.cells, true⟩) (List.replicate n z) [] := by
  refine ⟨Nat.zero_le _, hw.push _, AHeap.Le.push hw _, hw _ (Nat.le_refl _), Nat.lt_succ_self _, AHeap.get_push_eq, by simp, zl, rfl, .nil, fun j x row js _ _ h => by simp at h, fun j _ hj => ?_⟩
  rw [List.getElem?_replicate, if_pos hj]
theorem ToI.finish {s : Sh} {z : List Value} {n : Nat} {h : AHeap} {xs : List s.T} {h1 : AHeap} {rows : List (List Value)} {idss : List (List Nat)} (I : ToI s z n h xs n h1 rows idss) (hx : xs.length = n) (c : Nat) :
    ∃ ids, So h1 s xs (.slice (some ⟨h.n, 0, some s.cells⟩) n c) ids ∧ Fresh h.n h1.n ids := by
  rcases Nat.eq_zero_or_pos n with h0 | hp
  · subst h0
    refine ⟨[], ⟨_, 0, c, rfl, .inr ⟨_, _, rfl⟩, hx, .inl ⟨rfl, rfl, ?_⟩⟩, .nil⟩
    rw [get_rowsOf I.get (Nat.zero_le _)]; rfl
  · refine ⟨h.n :: idss.flatten, ⟨_, n, c, rfl, .inr ⟨_, _, rfl⟩, hx, .inr ⟨h.n, 0, rows, idss, rfl, I.get, by rw [I.len]; omega, I.il, rfl, fun i x row js h1 h2 h3 => I.done i x row js h1 (by rw [Nat.zero_add] at h2; exact h2) h3⟩⟩, ?_⟩
    exact Fresh.append (Nat.le_succ _) I.lt (Fresh.one (Nat.lt_succ_self _)) I.fr
structure EqI {α : Type} (xs ys : List α) (i : Nat) : Prop where
  len : xs.length = ys.length
  hi : i ≤ xs.length
  eq : xs.take i = ys.take i
theorem EqI.step {α : Type} {xs ys : List α} {i : Nat} (I : EqI xs ys i) (hx : i < xs.length) (hy : i < ys.length) (e : xs[i] = ys[i]) : EqI xs ys (i + 1) :=
  ⟨I.len, hx, by rw [List.take_succ_eq_append_getElem hx, List.take_succ_eq_append_getElem hy, I.eq, e]⟩
theorem EqI.all {α : Type} {xs ys : List α} (I : EqI xs ys xs.length) : xs = ys := by
  have := I.eq
  rwa [List.take_length, I.len, List.take_length] at this
end Go.Dat
namespace Go.Abs
open Go.Dat
def toL (s : Sh) (z : List Value) (a : Option Addr) (n c : Nat) (h : AHeap) (xs : List s.T) : LSpec where
  ι := Nat × AHeap × List (List Value) × List (List Nat)
  κ := AHeap × List (List Value) × List (List Nat)
  I := fun i => ToI s z n h xs i.1 i.2.1 i.2.2.1 i.2.2.2
  μ := fun i => n - i.1
  head := fun i => ⟨[(0, .slice a n c), (3, .slice (some ⟨h.n, 0, some s.cells⟩) n (n + 1)), (4, .int .i64 i.1)], [], i.2.1⟩
  post := fun j => ⟨[(3, .slice (some ⟨h.n, 0, some s.cells⟩) n (n + 1))], [], j.1⟩
  R := fun _ j => ToI s z n h xs n j.1 j.2.1 j.2.2
  ret := fun _ _ _ => False
def szLp (s : Sh) (a : Option Addr) (n c : Nat) (h : AHeap) (xs : List s.T) (res : Int) : LSpec where
  ι := Nat × Int
  κ := Int
  I := fun i => i.1 ≤ n ∧ 0 ≤ i.2 ∧ i.2 ≤ 1048576 ∧ szL s.sz (xs.drop i.1) i.2 = res
  μ := fun i => n - i.1
  head := fun i => ⟨[(0, .slice a n c), (1, .int .i64 i.2), (5, .int .i64 i.1)], [], h⟩
  post := fun j => ⟨[(1, .int .i64 j)], [], h⟩
  R := fun _ j => j = res
  ret := fun _ v h' => v = .int .i64 res ∧ h' = h
def eqLp {α : Type} (h : AHeap) (a : Option Addr) (n c : Nat) (a' : Option Addr) (n' c' : Nat) (xs ys : List α) : LSpec where
  ι := Nat
  κ := Unit
  I := fun i => EqI xs ys i
  μ := fun i => xs.length - i
  head := fun i => ⟨[(0, .slice a n c), (1, .slice a' n' c'), (5, .int .i64 i)], [], h⟩
  post := fun _ => ⟨[], [], h⟩
  R := fun _ _ => xs = ys
  ret := fun _ v h' => v = .bool (eqb xs ys) ∧ h' = h
end Go.Abs
end
section
namespace Go.Dat
open Go.Abs
theorem Sh.ro.le {h h' : AHeap} (hl : h.Le h') {s : Sh} {x : s.T} {cs : List Value} {ids : List Nat} (r : s.ro h x cs ids) : s.ro h' x cs ids := by
  refine Sh.ro.frame hl.shp (fun l hm => ?_) r
  cases hq : h.get l with
  | some o => exact hl.get l o hq
  | none => exact absurd hq (ro_some r hm)
theorem So.le {h h' : AHeap} (hl : h.Le h') {s : Sh} {xs : List s.T} {v : Value} {ids : List Nat} (r : So h s xs v ids) : So h' s xs v ids := by
  obtain ⟨v', e, h1⟩ := ro_sl.1 (Sh.ro.le hl (ro_sl.2 ⟨v, rfl, r⟩))
  cases e; exact h1
theorem sz_step {a b : Sh} {x : (Sh.pair a b).T} {l m r : Int} (h : a.sz x.1 l = m) (hm : 0 ≤ m) (t : b.sz x.2 m = r) : (Sh.pair a b).sz x l = r := by
  show (if a.sz x.1 l < 0 then -1 else b.sz x.2 (a.sz x.1 l)) = r
  rw [h, if_neg (by omega), t]
theorem sz_stop {a b : Sh} {x : (Sh.pair a b).T} {l : Int} (h : a.sz x.1 l < 0) : (Sh.pair a b).sz x l = -1 := by
  show (if a.sz x.1 l < 0 then -1 else b.sz x.2 (a.sz x.1 l)) = -1
  rw [if_pos h]
theorem sz_str {x : ByteArray} {l : Int} (h : ¬ l - (x.size : Int) < 0) : Sh.str.sz x l = l - (x.size : Int) := by
  show (if l - (x.size : Int) < 0 then -1 else l - (x.size : Int)) = _
  rw [if_neg h]
theorem sz_strn {x : ByteArray} {l : Int} (h : l - (x.size : Int) < 0) : Sh.str.sz x l = -1 := by
  show (if l - (x.size : Int) < 0 then -1 else l - (x.size : Int)) = _
  rw [if_pos h]
theorem sz_neg {s : Sh} {x : s.T} {l : Int} (hl : 0 ≤ l) (h : s.sz x l < 0) : s.sz x l = -1 := by
  have := s.sz_le x l hl; omega
theorem neg1 {i : Int} (h : i = -1) : i < 0 := by omega
end Go.Dat
namespace Go.Abs
theorem bs_d {p : Prop} {i : Decidable p} {x y : Prop} (h1 : p → x) (h2 : ¬ p → y) : bs (@decide p i) x y := bs_of (fun h => h1 (of_decide_eq_true h)) (fun h => h2 (of_decide_eq_false h))
theorem bs_dn {p : Prop} {i : Decidable p} {x y : Prop} (h1 : ¬ p → x) (h2 : p → y) : bs (!@decide p i) x y := bs_of (fun h => h1 (by simpa using h)) (fun h => h2 (by simpa using h))
theorem bs_nb {b : Bool} {x y : Prop} (h1 : b = false → x) (h2 : b = true → y) : bs (!b) x y := bs_of (fun h => h1 (by simpa using h)) (fun h => h2 (by simpa using h))
theorem acall_q {P : Program} {f : FuncId} {args : List Value} {h : AHeap} {Q : Value → AHeap → Prop} (hx : ∀ Q' : Value → AHeap → Prop, (∀ v h', Q v h' → Q' v h') → ∃ v h', ACall P f args h v h' ∧ Q' v h') :
    ∃ v h', ACall P f args h v h' ∧ Q v h' := hx Q fun _ _ x => x
structure Vc (p : Prop) : Prop where
  out : p
theorem vc_mp {p q : Prop} (e : q = p) (h : q) : Vc p := ⟨e ▸ h⟩
theorem acall_vc {P : Program} {nt : Nat} {rs : List ResultVar} {f : FuncId} {fn : Func} {c : Code} {args : List Value} {h0 : AHeap} {Q : Value → AHeap → Prop} (E : Tmp → Bool) (D : Nat → List Stp) (LS : Nat → LSpec) (hm : P.follows .mixedOrders = true) (hf : P.funcs[f]? = some fn) (hb : fn.body = some c) (hrs : fn.results = rs.toArray) (hn : fn.ntmps = nt) (hs : args.length ≤ nt)
    (hl : Vc (loopsOk (LoopOk P nt E D LS rs) c)) (h : Vc (vcL P nt E D LS Q c (vcRes P rs Q) (retX P rs Q) (st0 args h0))) : ∃ v h', ACall P f args h0 v h' ∧ Q v h' :=
  acall_by E D LS hm hf hb hrs hn hs hl.out h.out
theorem acall_out {P : Program} {f : FuncId} {args : List Value} {h : AHeap} {v : Value} (hx : ∃ v' h', ACall P f args h v' h' ∧ v' = v ∧ h' = h) : ACall P f args h v h := by
  obtain ⟨_, _, hA, rfl, rfl⟩ := hx; exact hA
end Go.Abs
end
