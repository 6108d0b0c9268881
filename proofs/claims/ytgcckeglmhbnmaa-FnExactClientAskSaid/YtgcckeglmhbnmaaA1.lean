/- Abstract heaps, and how they stand to the model's worlds: objects are lists of rows of values, without capacities. -/
import Derived.Orders
import Derived.Below
namespace Go.Abs

theorem alloc_size (w : World) (o : Obj) : (w.alloc o).heap.size = w.heap.size + 1 := Array.size_push _
theorem alloc_old (w : World) (o : Obj) {r : Nat} (h : r < w.heap.size) : (w.alloc o).heap[r]? = w.heap[r]? := RowKit.Below.heap_alloc w o r h
theorem alloc_new (w : World) (o : Obj) : (w.alloc o).heap[w.heap.size]? = some o := by
  show (w.heap.push o)[w.heap.size]? = _
  simp

/-- Where an abstract object lies: its block, the first cell, the cells of one row, the cells of the block, may it be written. -/
structure Site where
  blk : Nat
  base : Nat
  esz : Nat
  bsz : Nat
  rw : Bool

abbrev Lay := Nat → Option Site

/-- An abstract object: rows of values. -/
structure AObj where
  rows : List (List Value)
  esz : Nat
  rw : Bool

structure AHeap where
  n : Nat
  get : Nat → Option AObj

/-- An abstract value stands for a value of the model. A slice's address bears the row and the row's size, its cap 0 (unknown) or cap + 1. -/
inductive VRel (L : Lay) : Value → Value → Prop where
  | bool (b : Bool) : VRel L (.bool b) (.bool b)
  | int (k : IntKind) (n : Int) : VRel L (.int k n) (.int k n)
  | string (s : ByteArray) : VRel L (.string s) (.string s)
  | ptrN : VRel L (.pointer none) (.pointer none)
  | ptr {l r c : Nat} {s : Site} (h : L l = some s) : VRel L (.pointer (some ⟨l, r, some c⟩)) (.pointer (some ⟨s.blk, s.base + r * s.esz + c, none⟩))
  | sliceN : VRel L (.slice none 0 0) (.slice none 0 0)
  | slice {l r e n c C : Nat} {s : Site} {A : Addr} (h : L l = some s) (he : s.esz = e) (hn : n ≤ C) (ha : C = 0 ∨ A = ⟨s.blk, s.base + r * e, none⟩)
      (room : s.rw = true → s.base + (r + C) * e ≤ s.bsz) (hc : c = 0 ∨ c = C + 1) : VRel L (.slice (some ⟨l, r, some e⟩) n c) (.slice (some A) n C)
  | fn (f : Fn) {a a' b b' : Array Value} (hs : a.size = a'.size) (hv : ∀ (i : Nat) (v V : Value), a[i]? = some v → a'[i]? = some V → VRel L v V)
      (hs2 : b.size = b'.size) (hv2 : ∀ (i : Nat) (v V : Value), b[i]? = some v → b'[i]? = some V → VRel L v V) : VRel L (.func f a b) (.func f a' b')
  | fnN : VRel L .nilFunc .nilFunc
  | ifN : VRel L .nilIface .nilIface
  | iface (t : TypeId) {v V : Value} (h : VRel L v V) : VRel L (.iface t v) (.iface t V)
  | agg {a b : Array Value} (hs : a.size = b.size) (hv : ∀ (i : Nat) (v V : Value), a[i]? = some v → b[i]? = some V → VRel L v V) : VRel L (.agg a) (.agg b)
  | tuple {a b : Array Value} (hs : a.size = b.size) (hv : ∀ (i : Nat) (v V : Value), a[i]? = some v → b[i]? = some V → VRel L v V) : VRel L (.tuple a) (.tuple b)

def Lay.le (L L' : Lay) : Prop := ∀ l s, L l = some s → L' l = some s

theorem VRel.mono {L L' : Lay} (hl : L.le L') {v V : Value} (h : VRel L v V) : VRel L' v V := by
  induction h with
  | bool b => exact .bool b
  | int k n => exact .int k n
  | string s => exact .string s
  | ptrN => exact .ptrN
  | ptr h => exact .ptr (hl _ _ h)
  | sliceN => exact .sliceN
  | slice h he hn ha room hc => exact .slice (hl _ _ h) he hn ha room hc
  | fn f hs _ hs2 _ ih ih2 => exact .fn f hs ih hs2 ih2
  | fnN => exact .fnN
  | ifN => exact .ifN
  | iface t _ ih => exact .iface t ih
  | agg hs _ ih => exact .agg hs ih
  | tuple hs _ ih => exact .tuple hs ih

/-- Arrays of values, place by place. -/
def ARel (L : Lay) (a b : Array Value) : Prop := a.size = b.size ∧ ∀ (i : Nat) (v V : Value), a[i]? = some v → b[i]? = some V → VRel L v V

theorem ARel.mono {L L' : Lay} (hl : L.le L') {a b : Array Value} (h : ARel L a b) : ARel L' a b := ⟨h.1, fun i v V hv hV => (h.2 i v V hv hV).mono hl⟩

/-- The world has not changed where it must not. -/
structure Keeps (F : Nat → Prop) (w0 w : World) : Prop where
  os : w.os = w0.os
  tape : w.tape = w0.tape
  output : w.output = w0.output
  size : w0.heap.size ≤ w.heap.size
  block : ∀ b, F b → w.heap[b]? = w0.heap[b]?

theorem Keeps.refl (F : Nat → Prop) (w : World) : Keeps F w w := ⟨rfl, rfl, rfl, Nat.le_refl _, fun _ _ => rfl⟩
theorem Keeps.trans {F G : Nat → Prop} {a b c : World} (h : Keeps F a b) (k : Keeps G b c) (hFG : ∀ i, F i → G i) : Keeps F a c :=
  ⟨k.os.trans h.os, k.tape.trans h.tape, k.output.trans h.output, Nat.le_trans h.size k.size, fun i hi => (k.block i (hFG i hi)).trans (h.block i hi)⟩

/-- What the world holds of one object. -/
structure ObjRel (L : Lay) (w : World) (s : Site) (o : AObj) : Prop where
  esz : s.esz = o.esz
  rw : s.rw = o.rw
  lt : s.blk < w.heap.size
  len : ∀ (r : Nat) (row : List Value), o.rows[r]? = some row → row.length = o.esz
  cell : ∀ (r : Nat) (row : List Value), o.rows[r]? = some row → ∀ (j : Nat) (v : Value), row[j]? = some v → ∃ V, w.cell? ⟨s.blk, s.base + r * s.esz + j, none⟩ = some V ∧ VRel L v V
  own : o.rw = true → ∃ cs T fr, w.heap[s.blk]? = some (.cells cs T fr) ∧ cs.size = s.bsz ∧ (fr.2 ≤ fr.1 ∨ cs.size ≤ fr.1)

structure Rel (L : Lay) (F R : Nat → Prop) (w0 w : World) (h : AHeap) : Prop where
  keeps : Keeps F w0 w
  inF : ∀ b, F b → b < w0.heap.size
  inR : ∀ b, R b → F b
  fresh : ∀ l, h.n ≤ l → h.get l = none
  unl : ∀ l, h.n ≤ l → L l = none
  obj : ∀ l o s, h.get l = some o → L l = some s → ObjRel L w s o
  free : ∀ l o s, h.get l = some o → L l = some s → o.rw = true → ¬ F s.blk
  ro : ∀ l o s, h.get l = some o → L l = some s → o.rw = false → R s.blk
  apart : ∀ l l' o o' s s', h.get l = some o → h.get l' = some o' → L l = some s → L l' = some s' → o.rw = true → l ≠ l' → s.blk ≠ s'.blk

/-- The lay goes on: nothing old changes. -/
structure Ext (L : Lay) (h : AHeap) (L' : Lay) (h' : AHeap) : Prop where
  n : h.n ≤ h'.n
  lay : ∀ l, l < h.n → L' l = L l

theorem Ext.refl (L : Lay) (h : AHeap) : Ext L h L h := ⟨Nat.le_refl _, fun _ _ => rfl⟩
theorem Ext.trans {L L1 L2 : Lay} {h h1 h2 : AHeap} (a : Ext L h L1 h1) (b : Ext L1 h1 L2 h2) : Ext L h L2 h2 :=
  ⟨Nat.le_trans a.n b.n, fun l hl => (b.lay l (Nat.lt_of_lt_of_le hl a.n)).trans (a.lay l hl)⟩
theorem Ext.le {L L' : Lay} {h h' : AHeap} (e : Ext L h L' h') (hu : ∀ l, h.n ≤ l → L l = none) : L.le L' := fun l s hs => by
  rcases Nat.lt_or_ge l h.n with hl | hl
  · rw [e.lay l hl]; exact hs
  · rw [hu l hl] at hs; cases hs

/-- A new object behind all others. -/
def AHeap.push (h : AHeap) (o : AObj) : AHeap := ⟨h.n + 1, fun l => if l = h.n then some o else h.get l⟩
/-- An object in the place of another one (or none: it is dead). -/
def AHeap.put (h : AHeap) (l : Nat) (o : Option AObj) : AHeap := ⟨h.n, fun x => if x = l then o else h.get x⟩

def Lay.set (L : Lay) (l : Nat) (s : Site) : Lay := fun x => if x = l then some s else L x

theorem Lay.le_set {L : Lay} {l : Nat} (hl : L l = none) (s : Site) : L.le (L.set l s) := fun x t hx => by
  unfold Lay.set; split
  · rename_i e; subst e; rw [hl] at hx; cases hx
  · exact hx

theorem ObjRel.mono {L L' : Lay} (hl : L.le L') {w : World} {s : Site} {o : AObj} (h : ObjRel L w s o) : ObjRel L' w s o :=
  ⟨h.esz, h.rw, h.lt, h.len, fun r row hr j v hv => let ⟨V, a, b⟩ := h.cell r row hr j v hv; ⟨V, a, b.mono hl⟩, h.own⟩

/-- The world has turned elsewhere. -/
theorem ObjRel.world {L : Lay} {w w' : World} {s : Site} {o : AObj} (h : ObjRel L w s o) (hs : w.heap.size ≤ w'.heap.size) (hb : w'.heap[s.blk]? = w.heap[s.blk]?) : ObjRel L w' s o :=
  ⟨h.esz, h.rw, Nat.lt_of_lt_of_le h.lt hs, h.len, fun r row hr j v hv => let ⟨V, a, b⟩ := h.cell r row hr j v hv; ⟨V, by rw [← a]; unfold World.cell?; rw [hb], b⟩,
   fun ho => let ⟨cs, T, fr, a, b⟩ := h.own ho; ⟨cs, T, fr, hb.trans a, b⟩⟩

theorem Keeps.alloc {F : Nat → Prop} {w0 w : World} (h : Keeps F w0 w) (hF : ∀ b, F b → b < w0.heap.size) (o : Obj) : Keeps F w0 (w.alloc o) :=
  ⟨h.os, h.tape, h.output, by rw [alloc_size]; have := h.size; omega, fun b hb => by
    have h1 := hF b hb; have h2 := h.size
    rw [← h.block b hb]; exact alloc_old w o (by omega)⟩
theorem Keeps.drewN {F : Nat → Prop} {w0 w : World} (h : Keeps F w0 w) (n : Nat) : Keeps F w0 { w with drawn := w.drawn + n } := ⟨h.os, h.tape, h.output, h.size, h.block⟩

theorem Rel.drew {L : Lay} {F R : Nat → Prop} {w0 w : World} {h : AHeap} (r : Rel L F R w0 w h) (n : Nat) : Rel L F R w0 { w with drawn := n } h :=
  ⟨⟨r.keeps.os, r.keeps.tape, r.keeps.output, r.keeps.size, r.keeps.block⟩, r.inF, r.inR, r.fresh, r.unl,
   fun l o s a b => (r.obj l o s a b).world (Nat.le_refl _) rfl, r.free, r.ro, r.apart⟩

/-- A block made by the model that no object stands for. -/
theorem Rel.skipAlloc {L : Lay} {F R : Nat → Prop} {w0 w : World} {h : AHeap} (r : Rel L F R w0 w h) (x : Obj) : Rel L F R w0 (w.alloc x) h :=
  ⟨r.keeps.alloc r.inF x, r.inF, r.inR, r.fresh, r.unl,
   fun l o s a b => (r.obj l o s a b).world (by rw [alloc_size]; omega) (alloc_old w x (r.obj l o s a b).lt), r.free, r.ro, r.apart⟩

/-- A new object in a new block. -/
theorem Rel.push {L : Lay} {F R : Nat → Prop} {w0 w : World} {h : AHeap} (r : Rel L F R w0 w h) {o : AObj} {cs : Array Value} {T : TypeId} (fr : Nat × Nat) (hfr : fr.2 ≤ fr.1 ∨ cs.size ≤ fr.1) (hrw : o.rw = true)
    (hlen : ∀ (i : Nat) (row : List Value), o.rows[i]? = some row → row.length = o.esz)
    (hcell : ∀ (i : Nat) (row : List Value), o.rows[i]? = some row → ∀ (j : Nat) (v : Value), row[j]? = some v → ∃ V, cs[i * o.esz + j]? = some V ∧ VRel L v V) :
    Rel (L.set h.n ⟨w.heap.size, 0, o.esz, cs.size, o.rw⟩) F R w0 (w.alloc (.cells cs T fr)) (h.push o) := by
  have hle := Lay.le_set (L := L) (r.unl h.n (Nat.le_refl _)) ⟨w.heap.size, 0, o.esz, cs.size, o.rw⟩
  have hnew : (w.alloc (.cells cs T fr)).heap[w.heap.size]? = some (.cells cs T fr) := alloc_new w _
  have hsz : (w.alloc (.cells cs T fr)).heap.size = w.heap.size + 1 := alloc_size w _
  have key : ∀ l x s, (h.push o).get l = some x → (L.set h.n ⟨w.heap.size, 0, o.esz, cs.size, o.rw⟩) l = some s →
      (l = h.n ∧ x = o ∧ s = ⟨w.heap.size, 0, o.esz, cs.size, o.rw⟩) ∨ (l ≠ h.n ∧ h.get l = some x ∧ L l = some s) := by
    intro l x s h1 h2
    unfold AHeap.push at h1; unfold Lay.set at h2
    dsimp only at h1
    by_cases e : l = h.n
    · rw [if_pos e] at h1 h2; left; exact ⟨e, (Option.some.inj h1).symm, (Option.some.inj h2).symm⟩
    · rw [if_neg e] at h1 h2; right; exact ⟨e, h1, h2⟩
  refine ⟨r.keeps.alloc r.inF _, r.inF, r.inR, ?_, ?_, ?_, ?_, ?_, ?_⟩
  · intro l hl
    have hl' : h.n + 1 ≤ l := hl
    show (if l = h.n then some o else h.get l) = none
    rw [if_neg (by omega)]; exact r.fresh l (by omega)
  · intro l hl
    have hl' : h.n + 1 ≤ l := hl
    show (if l = h.n then _ else L l) = none
    rw [if_neg (by omega)]; exact r.unl l (by omega)
  · intro l x s h1 h2
    rcases key l x s h1 h2 with ⟨rfl, rfl, rfl⟩ | ⟨_, a, b⟩
    · refine ⟨rfl, rfl, by rw [hsz]; exact Nat.lt_succ_self _, hlen, ?_, fun _ => ⟨cs, T, fr, hnew, rfl, hfr⟩⟩
      intro i row hi j v hv
      obtain ⟨V, c, d⟩ := hcell i row hi j v hv
      refine ⟨V, ?_, d.mono hle⟩
      show (w.alloc (.cells cs T fr)).cell? ⟨w.heap.size, 0 + i * x.esz + j, none⟩ = some V
      rw [Nat.zero_add]
      unfold World.cell?; rw [hnew]; simpa using c
    · exact ((r.obj l x s a b).mono hle).world (by rw [hsz]; omega) (alloc_old w _ (r.obj l x s a b).lt)
  · intro l x s h1 h2 hx hf
    rcases key l x s h1 h2 with ⟨rfl, rfl, rfl⟩ | ⟨_, a, b⟩
    · have h3 := r.inF _ hf
      have h4 := r.keeps.size
      dsimp only at h3; omega
    · exact r.free l x s a b hx hf
  · intro l x s h1 h2 hx
    rcases key l x s h1 h2 with ⟨rfl, rfl, rfl⟩ | ⟨_, a, b⟩
    · rw [hrw] at hx; cases hx
    · exact r.ro l x s a b hx
  · intro l l' x x' s s' h1 h1' h2 h2' hx hne he
    rcases key l x s h1 h2 with ⟨rfl, rfl, rfl⟩ | ⟨_, a, b⟩
    · rcases key l' x' s' h1' h2' with ⟨rfl, rfl, rfl⟩ | ⟨_, a', b'⟩
      · exact hne rfl
      · have := (r.obj l' x' s' a' b').lt; dsimp only at he; omega
    · rcases key l' x' s' h1' h2' with ⟨rfl, rfl, rfl⟩ | ⟨_, a', b'⟩
      · have := (r.obj l x s a b).lt; dsimp only at he; omega
      · exact r.apart l l' x x' s s' a a' b b' hx hne he

/-- An object dies. -/
theorem Rel.kill {L : Lay} {F R : Nat → Prop} {w0 w : World} {h : AHeap} (r : Rel L F R w0 w h) (l : Nat) : Rel L F R w0 w (h.put l none) := by
  have key : ∀ x o, (h.put l none).get x = some o → h.get x = some o := by
    intro x o hx; unfold AHeap.put at hx; dsimp only at hx; split at hx
    · cases hx
    · exact hx
  refine ⟨r.keeps, r.inF, r.inR, ?_, r.unl, fun x o s a b => r.obj x o s (key x o a) b, fun x o s a b => r.free x o s (key x o a) b, fun x o s a b => r.ro x o s (key x o a) b, fun x x' o o' s s' a a' b b' => r.apart x x' o o' s s' (key _ _ a) (key _ _ a') b b'⟩
  intro x hx
  show (if x = l then none else h.get x) = none
  split
  · rfl
  · exact r.fresh x hx

/-- Two worlds that differ in one block at most. -/
structure Turns (w w' : World) (b : Nat) : Prop where
  os : w'.os = w.os
  tape : w'.tape = w.tape
  output : w'.output = w.output
  size : w'.heap.size = w.heap.size
  block : ∀ i, i ≠ b → w'.heap[i]? = w.heap[i]?

theorem Turns.keeps {w w' : World} {b : Nat} (t : Turns w w' b) {F : Nat → Prop} {w0 : World} (k : Keeps F w0 w) (hb : ¬ F b) : Keeps F w0 w' :=
  ⟨t.os.trans k.os, t.tape.trans k.tape, t.output.trans k.output, by rw [t.size]; exact k.size, fun i hi => (t.block i (fun e => hb (e ▸ hi))).trans (k.block i hi)⟩

theorem AHeap.get_put_ne {h : AHeap} {l x : Nat} {o : Option AObj} (hx : x ≠ l) : (h.put l o).get x = h.get x := if_neg hx
theorem AHeap.get_put_eq {h : AHeap} {l : Nat} {o : Option AObj} : (h.put l o).get l = o := if_pos rfl
theorem AHeap.get_push_ne {h : AHeap} {x : Nat} {o : AObj} (hx : x ≠ h.n) : (h.push o).get x = h.get x := if_neg hx
theorem AHeap.get_push_eq {h : AHeap} {o : AObj} : (h.push o).get h.n = some o := if_pos rfl

/-- A written object. -/
theorem Rel.rewrite {L : Lay} {F R : Nat → Prop} {w0 w w' : World} {h : AHeap} (r : Rel L F R w0 w h) {l : Nat} {o o' : AObj} {s : Site} (hl : h.get l = some o) (hs : L l = some s)
    (hrw : o.rw = true) (hrw' : o'.rw = true) (t : Turns w w' s.blk) (ho : ObjRel L w' s o') : Rel L F R w0 w' (h.put l (some o')) := by
  have key : ∀ x y q, (h.put l (some o')).get x = some y → L x = some q → (x = l ∧ y = o' ∧ q = s) ∨ (x ≠ l ∧ h.get x = some y ∧ L x = some q) := by
    intro x y q h1 h2
    by_cases e : x = l
    · subst e; rw [AHeap.get_put_eq] at h1; left; exact ⟨rfl, (Option.some.inj h1).symm, Option.some.inj (h2.symm.trans hs)⟩
    · rw [AHeap.get_put_ne e] at h1; right; exact ⟨e, h1, h2⟩
  refine ⟨t.keeps r.keeps (r.free l o s hl hs hrw), r.inF, r.inR, ?_, r.unl, ?_, ?_, ?_, ?_⟩
  · intro x hx
    have hne : x ≠ l := fun e => by subst e; rw [r.fresh x hx] at hl; cases hl
    rw [AHeap.get_put_ne hne]; exact r.fresh x hx
  · intro x y q h1 h2
    rcases key x y q h1 h2 with ⟨rfl, rfl, rfl⟩ | ⟨e, a, b⟩
    · exact ho
    · exact (r.obj x y q a b).world (by rw [t.size]; exact Nat.le_refl _) (t.block _ (fun e' => r.apart l x o y s q hl a hs b hrw (Ne.symm e) e'.symm))
  · intro x y q h1 h2 hy
    rcases key x y q h1 h2 with ⟨rfl, rfl, rfl⟩ | ⟨e, a, b⟩
    · exact r.free _ o _ hl hs hrw
    · exact r.free x y q a b hy
  · intro x y q h1 h2 hy
    rcases key x y q h1 h2 with ⟨rfl, rfl, rfl⟩ | ⟨e, a, b⟩
    · rw [hrw'] at hy; cases hy
    · exact r.ro x y q a b hy
  · intro x x' y y' q q' h1 h1' h2 h2' hy hne
    rcases key x y q h1 h2 with ⟨rfl, rfl, rfl⟩ | ⟨e, a, b⟩
    · rcases key x' y' q' h1' h2' with ⟨rfl, rfl, rfl⟩ | ⟨e', a', b'⟩
      · exact absurd rfl hne
      · exact r.apart _ x' o y' _ q' hl a' hs b' hrw hne
    · rcases key x' y' q' h1' h2' with ⟨rfl, rfl, rfl⟩ | ⟨e', a', b'⟩
      · exact fun e' => r.apart _ x o y _ q hl a hs b hrw (Ne.symm hne) e'.symm
      · exact r.apart x x' y y' q q' a a' b b' hy hne

/-- A new object in an old block that no living object lies in. -/
theorem Rel.pushAt {L : Lay} {F R : Nat → Prop} {w0 w w' : World} {h : AHeap} (r : Rel L F R w0 w h) {o' : AObj} {s : Site} (hrw' : o'.rw = true) (hF : ¬ F s.blk)
    (hno : ∀ x y q, h.get x = some y → L x = some q → q.blk ≠ s.blk) (t : Turns w w' s.blk) (ho : ObjRel (L.set h.n s) w' s o') : Rel (L.set h.n s) F R w0 w' (h.push o') := by
  have hle := Lay.le_set (L := L) (r.unl h.n (Nat.le_refl _)) s
  have key : ∀ x y q, (h.push o').get x = some y → (L.set h.n s) x = some q → (x = h.n ∧ y = o' ∧ q = s) ∨ (x ≠ h.n ∧ h.get x = some y ∧ L x = some q) := by
    intro x y q h1 h2
    by_cases e : x = h.n
    · subst e; rw [AHeap.get_push_eq] at h1; left; exact ⟨rfl, (Option.some.inj h1).symm, (Option.some.inj ((if_pos rfl).symm.trans h2)).symm⟩
    · rw [AHeap.get_push_ne e] at h1; right; exact ⟨e, h1, (if_neg e).symm.trans h2⟩
  refine ⟨t.keeps r.keeps hF, r.inF, r.inR, ?_, ?_, ?_, ?_, ?_, ?_⟩
  · intro x hx
    have hx' : h.n + 1 ≤ x := hx
    rw [AHeap.get_push_ne (by omega)]; exact r.fresh x (by omega)
  · intro x hx
    have hx' : h.n + 1 ≤ x := hx
    show (if x = h.n then _ else L x) = none
    rw [if_neg (by omega)]; exact r.unl x (by omega)
  · intro x y q h1 h2
    rcases key x y q h1 h2 with ⟨rfl, rfl, rfl⟩ | ⟨e, a, b⟩
    · exact ho
    · exact ((r.obj x y q a b).mono hle).world (by rw [t.size]; exact Nat.le_refl _) (t.block _ (hno x y q a b))
  · intro x y q h1 h2 hy
    rcases key x y q h1 h2 with ⟨rfl, rfl, rfl⟩ | ⟨e, a, b⟩
    · exact hF
    · exact r.free x y q a b hy
  · intro x y q h1 h2 hy
    rcases key x y q h1 h2 with ⟨rfl, rfl, rfl⟩ | ⟨e, a, b⟩
    · rw [hrw'] at hy; cases hy
    · exact r.ro x y q a b hy
  · intro x x' y y' q q' h1 h1' h2 h2' hy hne
    rcases key x y q h1 h2 with ⟨rfl, rfl, rfl⟩ | ⟨e, a, b⟩
    · rcases key x' y' q' h1' h2' with ⟨rfl, rfl, rfl⟩ | ⟨e', a', b'⟩
      · exact absurd rfl hne
      · exact fun e => hno x' y' q' a' b' e.symm
    · rcases key x' y' q' h1' h2' with ⟨rfl, rfl, rfl⟩ | ⟨e', a', b'⟩
      · exact hno x y q a b
      · exact r.apart x x' y y' q q' a a' b b' hy hne

end Go.Abs
