/- M1. -/
import Derived.Orders
import Derived.Below
import Derived.Laws.StructEq
import Derived.Laws.Unary
import Derived.Laws.Cells
import Derived.Laws.CopyRow
import Derived.Laws.Append
namespace Go.Abs
theorem alloc_size (w : World) (o : Obj) : (w.alloc o).heap.size = w.heap.size + 1 := Array.size_push _
theorem alloc_old (w : World) (o : Obj) {r : Nat} (h : r < w.heap.size) : (w.alloc o).heap[r]? = w.heap[r]? := RowKit.Below.heap_alloc w o r h
theorem alloc_new (w : World) (o : Obj) : (w.alloc o).heap[w.heap.size]? = some o := by
  show (w.heap.push o)[w.heap.size]? = _
  simp
structure Site where
  blk : Nat
  base : Nat
  esz : Nat
  bsz : Nat
  rw : Bool
abbrev Lay := Nat → Option Site
structure AObj where
  rows : List (List Value)
  esz : Nat
  rw : Bool
structure AHeap where
  n : Nat
  get : Nat → Option AObj
inductive VRel (L : Lay) : Value → Value → Prop where
  | bool (b : Bool) : VRel L (.bool b) (.bool b)
  | int (k : IntKind) (n : Int) : VRel L (.int k n) (.int k n)
  | string (s : ByteArray) : VRel L (.string s) (.string s)
  | ptrN : VRel L (.pointer none) (.pointer none)
  | ptr {l r c : Nat} {s : Site} (h : L l = some s) : VRel L (.pointer (some ⟨l, r, some c⟩)) (.pointer (some ⟨s.blk, s.base + r * s.esz + c, none⟩))
  | sliceN : VRel L (.slice none 0 0) (.slice none 0 0)
  | slice {l r e n c C : Nat} {s : Site} {A : Addr} (h : L l = some s) (he : s.esz = e) (hn : n ≤ C) (ha : C = 0 ∨ A = ⟨s.blk, s.base + r * e, none⟩)
      (room : s.rw = true → s.base + (r + C) * e ≤ s.bsz) (hc : c = 0 ∨ c = C + 1) : VRel L (.slice (some ⟨l, r, some e⟩) n c) (.slice (some A) n C)
  | fn (f : Fn) {a a' b b' : Array Value} (hs : a.size = a'.size) (hv : ∀ (i : Nat) (v V : Value), a[i]? = some v → a'[i]? = some V → VRel L v V)
      (hs2 : b.size = b'.size) (hv2 : ∀ (i : Nat) (v V : Value), b[i]? = some v → b'[i]? = some V → VRel L v V) : VRel L (.func f a b) (.func f a' b')
  | fnN : VRel L .nilFunc .nilFunc
  | ifN : VRel L .nilIface .nilIface
  | iface (t : TypeId) {v V : Value} (h : VRel L v V) : VRel L (.iface t v) (.iface t V)
  | agg {a b : Array Value} (hs : a.size = b.size) (hv : ∀ (i : Nat) (v V : Value), a[i]? = some v → b[i]? = some V → VRel L v V) : VRel L (.agg a) (.agg b)
  | tuple {a b : Array Value} (hs : a.size = b.size) (hv : ∀ (i : Nat) (v V : Value), a[i]? = some v → b[i]? = some V → VRel L v V) : VRel L (.tuple a) (.tuple b)
    | junk (V : Value) : VRel L (.chan none) V
def Lay.le (L L' : Lay) : Prop := ∀ l s, L l = some s → L' l = some s
theorem VRel.mono {L L' : Lay} (hl : L.le L') {v V : Value} (h : VRel L v V) : VRel L' v V := by
  induction h with
  | bool b => exact .bool b
  | int k n => exact .int k n
  | string s => exact .string s
  | ptrN => exact .ptrN
  | ptr h => exact .ptr (hl _ _ h)
  | sliceN => exact .sliceN
  | slice h he hn ha room hc => exact .slice (hl _ _ h) he hn ha room hc
  | fn f hs _ hs2 _ ih ih2 => exact .fn f hs ih hs2 ih2
  | fnN => exact .fnN
  | ifN => exact .ifN
  | iface t _ ih => exact .iface t ih
  | agg hs _ ih => exact .agg hs ih
  | tuple hs _ ih => exact .tuple hs ih
  | junk V => exact .junk V
def ARel (L : Lay) (a b : Array Value) : Prop := a.size = b.size ∧ ∀ (i : Nat) (v V : Value), a[i]? = some v → b[i]? = some V → VRel L v V
theorem ARel.mono {L L' : Lay} (hl : L.le L') {a b : Array Value} (h : ARel L a b) : ARel L' a b := ⟨h.1, fun i v V hv hV => (h.2 i v V hv hV).mono hl⟩
structure Keeps (F : Nat → Prop) (w0 w : World) : Prop where
  os : w.os = w0.os
  tape : w.tape = w0.tape
  output : w.output = w0.output
  size : w0.heap.size ≤ w.heap.size
  block : ∀ b, F b → w.heap[b]? = w0.heap[b]?
theorem Keeps.refl (F : Nat → Prop) (w : World) : Keeps F w w := ⟨rfl, rfl, rfl, Nat.le_refl _, fun _ _ => rfl⟩
theorem Keeps.trans {F G : Nat → Prop} {a b c : World} (h : Keeps F a b) (k : Keeps G b c) (hFG : ∀ i, F i → G i) : Keeps F a c :=
  ⟨k.os.trans h.os, k.tape.trans h.tape, k.output.trans h.output, Nat.le_trans h.size k.size, fun i hi => (k.block i (hFG i hi)).trans (h.block i hi)⟩
structure ObjRel (L : Lay) (w : World) (s : Site) (o : AObj) : Prop where
  esz : s.esz = o.esz
  rw : s.rw = o.rw
  lt : s.blk < w.heap.size
  len : ∀ (r : Nat) (row : List Value), o.rows[r]? = some row → row.length = o.esz
  cell : ∀ (r : Nat) (row : List Value), o.rows[r]? = some row → ∀ (j : Nat) (v : Value), row[j]? = some v → ∃ V, w.cell? ⟨s.blk, s.base + r * s.esz + j, none⟩ = some V ∧ VRel L v V
  own : o.rw = true → ∃ cs T fr, w.heap[s.blk]? = some (.cells cs T fr) ∧ cs.size = s.bsz ∧ (fr.2 ≤ fr.1 ∨ (s.esz = 1 ∧ cs.size ≤ fr.1))
structure Rel (L : Lay) (F R : Nat → Prop) (w0 w : World) (h : AHeap) : Prop where
  keeps : Keeps F w0 w
  inF : ∀ b, F b → b < w0.heap.size
  inR : ∀ b, R b → F b
  fresh : ∀ l, h.n ≤ l → h.get l = none
  unl : ∀ l, h.n ≤ l → L l = none
  obj : ∀ l o s, h.get l = some o → L l = some s → ObjRel L w s o
  free : ∀ l o s, h.get l = some o → L l = some s → o.rw = true → ¬ F s.blk
  ro : ∀ l o s, h.get l = some o → L l = some s → o.rw = false → R s.blk
  apart : ∀ l l' o o' s s', h.get l = some o → h.get l' = some o' → L l = some s → L l' = some s' → o.rw = true → l ≠ l' → s.blk ≠ s'.blk
structure Ext (L : Lay) (h : AHeap) (L' : Lay) (h' : AHeap) : Prop where
  n : h.n ≤ h'.n
  lay : ∀ l, l < h.n → L' l = L l
theorem Ext.refl (L : Lay) (h : AHeap) : Ext L h L h := ⟨Nat.le_refl _, fun _ _ => rfl⟩
theorem Ext.trans {L L1 L2 : Lay} {h h1 h2 : AHeap} (a : Ext L h L1 h1) (b : Ext L1 h1 L2 h2) : Ext L h L2 h2 :=
  ⟨Nat.le_trans a.n b.n, fun l hl => (b.lay l (Nat.lt_of_lt_of_le hl a.n)).trans (a.lay l hl)⟩
theorem Ext.le {L L' : Lay} {h h' : AHeap} (e : Ext L h L' h') (hu : ∀ l, h.n ≤ l → L l = none) : L.le L' := fun l s hs => by
  rcases Nat.lt_or_ge l h.n with hl | hl
  · rw [e.lay l hl]; exact hs
  · rw [hu l hl] at hs; cases hs
def AHeap.push (h : AHeap) (o : AObj) : AHeap := ⟨h.n + 1, fun l => if l = h.n then some o else h.get l⟩
def AHeap.put (h : AHeap) (l : Nat) (o : Option AObj) : AHeap := ⟨h.n, fun x => if x = l then o else h.get x⟩
def Lay.set (L : Lay) (l : Nat) (s : Site) : Lay := fun x => if x = l then some s else L x
theorem Lay.le_set {L : Lay} {l : Nat} (hl : L l = none) (s : Site) : L.le (L.set l s) := fun x t hx => by
  unfold Lay.set; split
  · rename_i e; subst e; rw [hl] at hx; cases hx
  · exact hx
theorem ObjRel.mono {L L' : Lay} (hl : L.le L') {w : World} {s : Site} {o : AObj} (h : ObjRel L w s o) : ObjRel L' w s o :=
  ⟨h.esz, h.rw, h.lt, h.len, fun r row hr j v hv => let ⟨V, a, b⟩ := h.cell r row hr j v hv; ⟨V, a, b.mono hl⟩, h.own⟩
theorem ObjRel.world {L : Lay} {w w' : World} {s : Site} {o : AObj} (h : ObjRel L w s o) (hs : w.heap.size ≤ w'.heap.size) (hb : w'.heap[s.blk]? = w.heap[s.blk]?) : ObjRel L w' s o :=
  ⟨h.esz, h.rw, Nat.lt_of_lt_of_le h.lt hs, h.len, fun r row hr j v hv => let ⟨V, a, b⟩ := h.cell r row hr j v hv; ⟨V, by rw [← a]; unfold World.cell?; rw [hb], b⟩,
   fun ho => let ⟨cs, T, fr, a, b⟩ := h.own ho; ⟨cs, T, fr, hb.trans a, b⟩⟩
theorem Keeps.alloc {F : Nat → Prop} {w0 w : World} (h : Keeps F w0 w) (hF : ∀ b, F b → b < w0.heap.size) (o : Obj) : Keeps F w0 (w.alloc o) :=
  ⟨h.os, h.tape, h.output, by rw [alloc_size]; have := h.size; omega, fun b hb => by
    have h1 := hF b hb; have h2 := h.size
    rw [← h.block b hb]; exact alloc_old w o (by omega)⟩
theorem Rel.drew {L : Lay} {F R : Nat → Prop} {w0 w : World} {h : AHeap} (r : Rel L F R w0 w h) (n : Nat) : Rel L F R w0 { w with drawn := n } h :=
  ⟨⟨r.keeps.os, r.keeps.tape, r.keeps.output, r.keeps.size, r.keeps.block⟩, r.inF, r.inR, r.fresh, r.unl,
   fun l o s a b => (r.obj l o s a b).world (Nat.le_refl _) rfl, r.free, r.ro, r.apart⟩
theorem Rel.skipAlloc {L : Lay} {F R : Nat → Prop} {w0 w : World} {h : AHeap} (r : Rel L F R w0 w h) (x : Obj) : Rel L F R w0 (w.alloc x) h :=
  ⟨r.keeps.alloc r.inF x, r.inF, r.inR, r.fresh, r.unl,
   fun l o s a b => (r.obj l o s a b).world (by rw [alloc_size]; omega) (alloc_old w x (r.obj l o s a b).lt), r.free, r.ro, r.apart⟩
theorem Rel.push {L : Lay} {F R : Nat → Prop} {w0 w : World} {h : AHeap} (r : Rel L F R w0 w h) {o : AObj} {cs : Array Value} {T : TypeId} (fr : Nat × Nat) (hfr : fr.2 ≤ fr.1 ∨ (o.esz = 1 ∧ cs.size ≤ fr.1)) (hrw : o.rw = true)
    (hlen : ∀ (i : Nat) (row : List Value), o.rows[i]? = some row → row.length = o.esz)
    (hcell : ∀ (i : Nat) (row : List Value), o.rows[i]? = some row → ∀ (j : Nat) (v : Value), row[j]? = some v → ∃ V, cs[i * o.esz + j]? = some V ∧ VRel L v V) :
    Rel (L.set h.n ⟨w.heap.size, 0, o.esz, cs.size, o.rw⟩) F R w0 (w.alloc (.cells cs T fr)) (h.push o) := by
  have hle := Lay.le_set (L := L) (r.unl h.n (Nat.le_refl _)) ⟨w.heap.size, 0, o.esz, cs.size, o.rw⟩
  have hnew : (w.alloc (.cells cs T fr)).heap[w.heap.size]? = some (.cells cs T fr) := alloc_new w _
  have hsz : (w.alloc (.cells cs T fr)).heap.size = w.heap.size + 1 := alloc_size w _
  have key : ∀ l x s, (h.push o).get l = some x → (L.set h.n ⟨w.heap.size, 0, o.esz, cs.size, o.rw⟩) l = some s →
      (l = h.n ∧ x = o ∧ s = ⟨w.heap.size, 0, o.esz, cs.size, o.rw⟩) ∨ (l ≠ h.n ∧ h.get l = some x ∧ L l = some s) := by
    intro l x s h1 h2
    unfold AHeap.push at h1; unfold Lay.set at h2
    dsimp only at h1
    by_cases e : l = h.n
    · rw [if_pos e] at h1 h2; left; exact ⟨e, (Option.some.inj h1).symm, (Option.some.inj h2).symm⟩
    · rw [if_neg e] at h1 h2; right; exact ⟨e, h1, h2⟩
  refine ⟨r.keeps.alloc r.inF _, r.inF, r.inR, ?_, ?_, ?_, ?_, ?_, ?_⟩
  · intro l hl
    have hl' : h.n + 1 ≤ l := hl
    show (if l = h.n then some o else h.get l) = none
    rw [if_neg (by omega)]; exact r.fresh l (by omega)
  · intro l hl
    have hl' : h.n + 1 ≤ l := hl
    show (if l = h.n then _ else L l) = none
    rw [if_neg (by omega)]; exact r.unl l (by omega)
  · intro l x s h1 h2
    rcases key l x s h1 h2 with ⟨rfl, rfl, rfl⟩ | ⟨_, a, b⟩
    · refine ⟨rfl, rfl, by rw [hsz]; exact Nat.lt_succ_self _, hlen, ?_, fun _ => ⟨cs, T, fr, hnew, rfl, hfr⟩⟩
      intro i row hi j v hv
      obtain ⟨V, c, d⟩ := hcell i row hi j v hv
      refine ⟨V, ?_, d.mono hle⟩
      show (w.alloc (.cells cs T fr)).cell? ⟨w.heap.size, 0 + i * x.esz + j, none⟩ = some V
      rw [Nat.zero_add]
      unfold World.cell?; rw [hnew]; simpa using c
    · exact ((r.obj l x s a b).mono hle).world (by rw [hsz]; omega) (alloc_old w _ (r.obj l x s a b).lt)
  · intro l x s h1 h2 hx hf
    rcases key l x s h1 h2 with ⟨rfl, rfl, rfl⟩ | ⟨_, a, b⟩
    · have h3 := r.inF _ hf
      have h4 := r.keeps.size
      dsimp only at h3; omega
    · exact r.free l x s a b hx hf
  · intro l x s h1 h2 hx
    rcases key l x s h1 h2 with ⟨rfl, rfl, rfl⟩ | ⟨_, a, b⟩
    · rw [hrw] at hx; cases hx
    · exact r.ro l x s a b hx
  · intro l l' x x' s s' h1 h1' h2 h2' hx hne he
    rcases key l x s h1 h2 with ⟨rfl, rfl, rfl⟩ | ⟨_, a, b⟩
    · rcases key l' x' s' h1' h2' with ⟨rfl, rfl, rfl⟩ | ⟨_, a', b'⟩
      · exact hne rfl
      · have := (r.obj l' x' s' a' b').lt; dsimp only at he; omega
    · rcases key l' x' s' h1' h2' with ⟨rfl, rfl, rfl⟩ | ⟨_, a', b'⟩
      · have := (r.obj l x s a b).lt; dsimp only at he; omega
      · exact r.apart l l' x x' s s' a a' b b' hx hne he
theorem Rel.kill {L : Lay} {F R : Nat → Prop} {w0 w : World} {h : AHeap} (r : Rel L F R w0 w h) (l : Nat) : Rel L F R w0 w (h.put l none) := by
  have key : ∀ x o, (h.put l none).get x = some o → h.get x = some o := by
    intro x o hx; unfold AHeap.put at hx; dsimp only at hx; split at hx
    · cases hx
    · exact hx
  refine ⟨r.keeps, r.inF, r.inR, ?_, r.unl, fun x o s a b => r.obj x o s (key x o a) b, fun x o s a b => r.free x o s (key x o a) b, fun x o s a b => r.ro x o s (key x o a) b, fun x x' o o' s s' a a' b b' => r.apart x x' o o' s s' (key _ _ a) (key _ _ a') b b'⟩
  intro x hx
  show (if x = l then none else h.get x) = none
  split
  · rfl
  · exact r.fresh x hx
structure Turns (w w' : World) (b : Nat) : Prop where
  os : w'.os = w.os
  tape : w'.tape = w.tape
  output : w'.output = w.output
  size : w'.heap.size = w.heap.size
  block : ∀ i, i ≠ b → w'.heap[i]? = w.heap[i]?
theorem Turns.keeps {w w' : World} {b : Nat} (t : Turns w w' b) {F : Nat → Prop} {w0 : World} (k : Keeps F w0 w) (hb : ¬ F b) : Keeps F w0 w' :=
  ⟨t.os.trans k.os, t.tape.trans k.tape, t.output.trans k.output, by rw [t.size]; exact k.size, fun i hi => (t.block i (fun e => hb (e ▸ hi))).trans (k.block i hi)⟩
theorem AHeap.get_put_ne {h : AHeap} {l x : Nat} {o : Option AObj} (hx : x ≠ l) : (h.put l o).get x = h.get x := if_neg hx
theorem AHeap.get_put_eq {h : AHeap} {l : Nat} {o : Option AObj} : (h.put l o).get l = o := if_pos rfl
theorem AHeap.get_push_ne {h : AHeap} {x : Nat} {o : AObj} (hx : x ≠ h.n) : (h.push o).get x = h.get x := if_neg hx
theorem AHeap.get_push_eq {h : AHeap} {o : AObj} : (h.push o).get h.n = some o := if_pos rfl
theorem Rel.rewrite {L : Lay} {F R : Nat → Prop} {w0 w w' : World} {h : AHeap} (r : Rel L F R w0 w h) {l : Nat} {o o' : AObj} {s : Site} (hl : h.get l = some o) (hs : L l = some s)
    (hrw : o.rw = true) (hrw' : o'.rw = true) (t : Turns w w' s.blk) (ho : ObjRel L w' s o') : Rel L F R w0 w' (h.put l (some o')) := by
  have key : ∀ x y q, (h.put l (some o')).get x = some y → L x = some q → (x = l ∧ y = o' ∧ q = s) ∨ (x ≠ l ∧ h.get x = some y ∧ L x = some q) := by
    intro x y q h1 h2
    by_cases e : x = l
    · subst e; rw [AHeap.get_put_eq] at h1; left; exact ⟨rfl, (Option.some.inj h1).symm, Option.some.inj (h2.symm.trans hs)⟩
    · rw [AHeap.get_put_ne e] at h1; right; exact ⟨e, h1, h2⟩
  refine ⟨t.keeps r.keeps (r.free l o s hl hs hrw), r.inF, r.inR, ?_, r.unl, ?_, ?_, ?_, ?_⟩
  · intro x hx
    have hne : x ≠ l := fun e => by subst e; rw [r.fresh x hx] at hl; cases hl
    rw [AHeap.get_put_ne hne]; exact r.fresh x hx
  · intro x y q h1 h2
    rcases key x y q h1 h2 with ⟨rfl, rfl, rfl⟩ | ⟨e, a, b⟩
    · exact ho
    · exact (r.obj x y q a b).world (by rw [t.size]; exact Nat.le_refl _) (t.block _ (fun e' => r.apart l x o y s q hl a hs b hrw (Ne.symm e) e'.symm))
  · intro x y q h1 h2 hy
    rcases key x y q h1 h2 with ⟨rfl, rfl, rfl⟩ | ⟨e, a, b⟩
    · exact r.free _ o _ hl hs hrw
    · exact r.free x y q a b hy
  · intro x y q h1 h2 hy
    rcases key x y q h1 h2 with ⟨rfl, rfl, rfl⟩ | ⟨e, a, b⟩
    · rw [hrw'] at hy; cases hy
    · exact r.ro x y q a b hy
  · intro x x' y y' q q' h1 h1' h2 h2' hy hne
    rcases key x y q h1 h2 with ⟨rfl, rfl, rfl⟩ | ⟨e, a, b⟩
    · rcases key x' y' q' h1' h2' with ⟨rfl, rfl, rfl⟩ | ⟨e', a', b'⟩
      · exact absurd rfl hne
      · exact r.apart _ x' o y' _ q' hl a' hs b' hrw hne
    · rcases key x' y' q' h1' h2' with ⟨rfl, rfl, rfl⟩ | ⟨e', a', b'⟩
      · exact fun e' => r.apart _ x o y _ q hl a hs b hrw (Ne.symm hne) e'.symm
      · exact r.apart x x' y y' q q' a a' b b' hy hne
theorem Rel.pushAt {L : Lay} {F R : Nat → Prop} {w0 w w' : World} {h : AHeap} (r : Rel L F R w0 w h) {o' : AObj} {s : Site} (hrw' : o'.rw = true) (hF : ¬ F s.blk)
    (hno : ∀ x y q, h.get x = some y → L x = some q → q.blk ≠ s.blk) (t : Turns w w' s.blk) (ho : ObjRel (L.set h.n s) w' s o') : Rel (L.set h.n s) F R w0 w' (h.push o') := by
  have hle := Lay.le_set (L := L) (r.unl h.n (Nat.le_refl _)) s
  have key : ∀ x y q, (h.push o').get x = some y → (L.set h.n s) x = some q → (x = h.n ∧ y = o' ∧ q = s) ∨ (x ≠ h.n ∧ h.get x = some y ∧ L x = some q) := by
    intro x y q h1 h2
    by_cases e : x = h.n
    · subst e; rw [AHeap.get_push_eq] at h1; left; exact ⟨rfl, (Option.some.inj h1).symm, (Option.some.inj ((if_pos rfl).symm.trans h2)).symm⟩
    · rw [AHeap.get_push_ne e] at h1; right; exact ⟨e, h1, (if_neg e).symm.trans h2⟩
  refine ⟨t.keeps r.keeps hF, r.inF, r.inR, ?_, ?_, ?_, ?_, ?_, ?_⟩
  · intro x hx
    have hx' : h.n + 1 ≤ x := hx
    rw [AHeap.get_push_ne (by omega)]; exact r.fresh x (by omega)
  · intro x hx
    have hx' : h.n + 1 ≤ x := hx
    show (if x = h.n then _ else L x) = none
    rw [if_neg (by omega)]; exact r.unl x (by omega)
  · intro x y q h1 h2
    rcases key x y q h1 h2 with ⟨rfl, rfl, rfl⟩ | ⟨e, a, b⟩
    · exact ho
    · exact ((r.obj x y q a b).mono hle).world (by rw [t.size]; exact Nat.le_refl _) (t.block _ (hno x y q a b))
  · intro x y q h1 h2 hy
    rcases key x y q h1 h2 with ⟨rfl, rfl, rfl⟩ | ⟨e, a, b⟩
    · exact hF
    · exact r.free x y q a b hy
  · intro x y q h1 h2 hy
    rcases key x y q h1 h2 with ⟨rfl, rfl, rfl⟩ | ⟨e, a, b⟩
    · rw [hrw'] at hy; cases hy
    · exact r.ro x y q a b hy
  · intro x x' y y' q q' h1 h1' h2 h2' hy hne
    rcases key x y q h1 h2 with ⟨rfl, rfl, rfl⟩ | ⟨e, a, b⟩
    · rcases key x' y' q' h1' h2' with ⟨rfl, rfl, rfl⟩ | ⟨e', a', b'⟩
      · exact absurd rfl hne
      · exact fun e => hno x' y' q' a' b' e.symm
    · rcases key x' y' q' h1' h2' with ⟨rfl, rfl, rfl⟩ | ⟨e', a', b'⟩
      · exact hno x y q a b
      · exact r.apart x x' y y' q q' a a' b b' hy hne
end Go.Abs
namespace Go.Abs
structure St where
  t : Nat → Value
  S : List (List Value)
  h : AHeap
def upd (t : Nat → Value) (d : Nat) (v : Value) : Nat → Value := fun x => bif x == d then v else t x
def putD (t : Nat → Value) (dst : Option Tmp) (v : Value) : Nat → Value := match dst with | some d => upd t d v | none => t
def lptr (i c : Nat) : Value := .complex .f32 i c
def SVRel (L : Lay) (lam : List Nat) (v V : Value) : Prop :=
  match v with
  | .complex .f32 i c => ∃ b, lam[i]? = some b ∧ V = .pointer (some ⟨b, c, none⟩)
  | .complex .f64 _ _ => V = undef
  | v => VRel L v V
def skipV : Value := .complex .f64 0 0
theorem SVRel.of {L : Lay} {lam : List Nat} {v V : Value} (h : VRel L v V) : SVRel L lam v V := by
  cases h <;> (unfold SVRel; constructor <;> assumption)
def SlotRel (L : Lay) (lam : List Nat) (v : Value) (V : Option Value) : Prop := v = undef ∨ ∃ X, V = some X ∧ SVRel L lam v X
structure StRel (L : Lay) (F R : Nat → Prop) (w0 w : World) (lam : List Nat) (nt : Nat) (st : St) (T : Array Value) : Prop where
  rel : Rel L F R w0 w st.h
  tsz : T.size = nt
  llen : lam.length = st.S.length
  lnd : lam.Nodup
  lF : ∀ b, b ∈ lam → ¬ F b
  lrw : ∀ l o s, st.h.get l = some o → L l = some s → o.rw = true → s.blk ∉ lam
  lblk : ∀ (i b : Nat) (row : List Value), lam[i]? = some b → st.S[i]? = some row → ∃ (cs : Array Value) (ty : TypeId), w.heap[b]? = some (Obj.cells cs ty (0, 0)) ∧ cs.size = row.length ∧
    ∀ (j : Nat) (v : Value), row[j]? = some v → ∃ V, cs[j]? = some V ∧ VRel L v V
  slots : ∀ i, SlotRel L lam (st.t i) T[i]?
theorem SVRel.mono {L L' : Lay} (hl : L.le L') {lam lam' : List Nat} (hp : lam <+: lam') {v V : Value} (h : SVRel L lam v V) : SVRel L' lam' v V := by
  unfold SVRel at *
  split at h
  · obtain ⟨b, hb, e⟩ := h
    obtain ⟨x, rfl⟩ := hp
    exact ⟨b, by rw [List.getElem?_append_left (List.getElem?_eq_some_iff.1 hb).1]; exact hb, e⟩
  · exact h
  · exact VRel.mono hl h
theorem SlotRel.mono {L L' : Lay} (hl : L.le L') {lam lam' : List Nat} (hp : lam <+: lam') {v : Value} {V : Option Value} (h : SlotRel L lam v V) : SlotRel L' lam' v V :=
  h.imp id fun ⟨X, e, r⟩ => ⟨X, e, r.mono hl hp⟩
theorem StRel.put {L : Lay} {F R : Nat → Prop} {w0 w : World} {lam : List Nat} {nt : Nat} {st : St} {a : Act} (h : StRel L F R w0 w lam nt st a.tmps) {dst : Option Tmp} {v V : Value}
    (hd : ∀ d, dst = some d → d < nt) (hv : v = undef ∨ SVRel L lam v V) : StRel L F R w0 w lam nt { st with t := putD st.t dst v } (a.put dst V).tmps := by
  cases dst with
  | none => exact ⟨h.rel, h.tsz, h.llen, h.lnd, h.lF, h.lrw, h.lblk, h.slots⟩
  | some d =>
    have hlt := hd d rfl
    refine ⟨h.rel, by simp [Act.put, h.tsz], h.llen, h.lnd, h.lF, h.lrw, h.lblk, fun i => ?_⟩
    show SlotRel L lam (upd st.t d v i) (a.tmps.setIfInBounds d V)[i]?
    unfold upd
    by_cases e : i = d
    · subst e
      simp only [beq_self_eq_true, cond_true]
      rcases hv with rfl | hv
      · exact .inl rfl
      · exact .inr ⟨V, by rw [Array.getElem?_setIfInBounds_self, if_pos (by rw [h.tsz]; exact hlt)], hv⟩
    · rw [show (i == d) = false from beq_eq_false_iff_ne.2 e]
      simp only [cond_false]
      rw [Array.getElem?_setIfInBounds_ne (Ne.symm e)]
      exact h.slots i
def plainLeaf : Value → Bool
  | .bool _ | .int _ _ | .string _ | .pointer none | .nilFunc | .nilIface => true
  | .slice none n c => n == 0 && c == 0
  | _ => false
def plain : Value → Bool
  | .agg cs => cs.toList.all plainLeaf
  | v => plainLeaf v
theorem VRel.plainLeaf {L : Lay} {v : Value} (h : plainLeaf v = true) : VRel L v v := by
  unfold Abs.plainLeaf at h
  split at h <;> first | constructor | skip
  · rename_i n c
    simp at h; obtain ⟨rfl, rfl⟩ := h; exact .sliceN
  · cases h
theorem VRel.plain {L : Lay} {v : Value} (h : plain v = true) : VRel L v v := by
  unfold Abs.plain at h
  split at h
  · rename_i cs
    refine .agg rfl fun i v V h1 h2 => ?_
    obtain rfl := Option.some.inj (h1.symm.trans h2)
    have := List.all_eq_true.1 h v (Array.mem_toList_iff.2 (Array.mem_of_getElem? h1))
    exact .plainLeaf this
  · exact .plainLeaf h
def ev (t : Nat → Value) : Operand → Value
  | .tmp i => t i
  | .const v => bif plain v then v else undef
  | .global _ => undef
  | .func f => .func (.func f) #[] #[]
structure Known (L : Lay) (lam : List Nat) (t : Nat → Value) (T : Array Value) : Prop where
  slots : ∀ i, SlotRel L lam (t i) T[i]?
theorem Known.ev {L : Lay} {lam : List Nat} {t : Nat → Value} {a : Act} (k : Known L lam t a.tmps) (x : Operand) : Abs.ev t x = undef ∨ SVRel L lam (Abs.ev t x) (a.eval x) := by
  cases x with
  | tmp i =>
    rcases k.slots i with h | ⟨X, e, r⟩
    · exact .inl h
    · right
      show SVRel L lam (t i) (a.tmps.getD i undef)
      rw [Array.getD_eq_getD_getElem?, e]; exact r
  | const v =>
    show (bif plain v then v else undef) = undef ∨ SVRel L lam (bif plain v then v else undef) v
    cases h : plain v with
    | true => right; exact .of (.plain h)
    | false => left; rfl
  | global g => exact .inl rfl
  | func f => right; exact .of (.fn _ rfl (fun i v V h1 _ => by simp at h1) rfl (fun i v V h1 _ => by simp at h1))
theorem StRel.known {L : Lay} {F R : Nat → Prop} {w0 w : World} {lam : List Nat} {nt : Nat} {st : St} {T : Array Value} (h : StRel L F R w0 w lam nt st T) : Known L lam st.t T := ⟨h.slots⟩
def OpSem (P : Program) (nt : Nat) (o : Oper) (st : St) (v : Value) (st' : St) : Prop :=
  st'.t = st.t ∧ ∀ (L : Lay) (F R : Nat → Prop) (w0 w : World) (lam : List Nat) (a : Act), StRel L F R w0 w lam nt st a.tmps → a.defers = [] →
    ∀ (next : Act → World → Prop) (Q : Exit → Act → World → Prop),
      (∀ V W L' lam', (v = undef ∨ SVRel L' lam' v V) → Ext L st.h L' st'.h → lam <+: lam' → StRel L' F R w0 W lam' nt st' a.tmps → next (a.put o.dst V) W) → o.wp P a w next Q
theorem OpSem.pure {P : Program} {nt : Nat} {o : Oper} {st : St} {v : Value}
    (h : ∀ (L : Lay) (lam : List Nat) (a : Act), Known L lam st.t a.tmps → ∃ V, (v = undef ∨ SVRel L lam v V) ∧ ∀ w, (execOp a.eval o).run P w = .ok (.value V) w) : OpSem P nt o st v st := by
  refine ⟨rfl, fun L F R w0 w lam a r _ next Q hn => ?_⟩
  obtain ⟨V, hv, he⟩ := h L lam a r.known
  unfold Oper.wp
  rw [he w, Oper.upon_value]
  exact hn V w L lam hv (Ext.refl _ _) (List.prefix_refl _) r
def PSem (P : Program) (o : Oper) (t : Nat → Value) (v : Value) : Prop :=
  ∀ (L : Lay) (lam : List Nat) (a : Act), Known L lam t a.tmps → ∃ V, (v = undef ∨ SVRel L lam v V) ∧ ∀ w, (execOp a.eval o).run P w = .ok (.value V) w
theorem PSem.pure {P : Program} {o : Oper} {t : Nat → Value} {v : Value} (h : ∀ (L : Lay) (lam : List Nat) (a : Act), Known L lam t a.tmps → ∃ V, (v = undef ∨ SVRel L lam v V) ∧ ∀ w, (execOp a.eval o).run P w = .ok (.value V) w) : PSem P o t v := h
theorem PSem.op {P : Program} {nt : Nat} {o : Oper} {st : St} {v : Value} (h : PSem P o st.t v) : OpSem P nt o st v st := OpSem.pure h
theorem OpSem.reads {P : Program} {nt : Nat} {o : Oper} {st : St} {v : Value}
    (h : ∀ (L : Lay) (F R : Nat → Prop) (w0 w : World) (lam : List Nat) (a : Act), StRel L F R w0 w lam nt st a.tmps → ∃ V, (v = undef ∨ SVRel L lam v V) ∧ (execOp a.eval o).run P w = .ok (.value V) w) : OpSem P nt o st v st := by
  refine ⟨rfl, fun L F R w0 w lam a r _ next Q hn => ?_⟩
  obtain ⟨V, hv, he⟩ := h L F R w0 w lam a r
  unfold Oper.wp
  rw [he, Oper.upon_value]
  exact hn V w L lam hv (Ext.refl _ _) (List.prefix_refl _) r
theorem SVRel.int {L : Lay} {lam : List Nat} {k : IntKind} {n : Int} {V : Value} (h : SVRel L lam (.int k n) V) : V = .int k n := by cases (h : VRel L _ _); rfl
theorem SVRel.bool {L : Lay} {lam : List Nat} {b : Bool} {V : Value} (h : SVRel L lam (.bool b) V) : V = .bool b := by cases (h : VRel L _ _); rfl
theorem SVRel.string {L : Lay} {lam : List Nat} {s : ByteArray} {V : Value} (h : SVRel L lam (.string s) V) : V = .string s := by cases (h : VRel L _ _); rfl
theorem SVRel.agg {L : Lay} {lam : List Nat} {cs : Array Value} {V : Value} (h : SVRel L lam (.agg cs) V) : ∃ ds, V = .agg ds ∧ ARel L cs ds := by
  cases (h : VRel L _ _) with | agg hs hv => exact ⟨_, rfl, hs, hv⟩
theorem SVRel.tuple {L : Lay} {lam : List Nat} {cs : Array Value} {V : Value} (h : SVRel L lam (.tuple cs) V) : ∃ ds, V = .tuple ds ∧ ARel L cs ds := by
  cases (h : VRel L _ _) with | tuple hs hv => exact ⟨_, rfl, hs, hv⟩
theorem SVRel.lptr {L : Lay} {lam : List Nat} {i c : Nat} {V : Value} (h : SVRel L lam (.complex .f32 i c) V) : ∃ b, lam[i]? = some b ∧ V = .pointer (some ⟨b, c, none⟩) := h
theorem SVRel.ptr {L : Lay} {lam : List Nat} {l r c : Nat} {V : Value} (h : SVRel L lam (.pointer (some ⟨l, r, some c⟩)) V) : ∃ s, L l = some s ∧ V = .pointer (some ⟨s.blk, s.base + r * s.esz + c, none⟩) := by
  cases (h : VRel L _ _) with | ptr h => exact ⟨_, h, rfl⟩
theorem SVRel.ptrN {L : Lay} {lam : List Nat} {V : Value} (h : SVRel L lam (.pointer none) V) : V = .pointer none := by cases (h : VRel L _ _); rfl
theorem Known.int {L : Lay} {lam : List Nat} {t : Nat → Value} {a : Act} (k : Known L lam t a.tmps) {x : Operand} {q : IntKind} {n : Int} (h : Abs.ev t x = .int q n) : a.eval x = .int q n := by
  rcases k.ev x with e | e
  · rw [h] at e; cases e
  · rw [h] at e; exact e.int
theorem Known.bool {L : Lay} {lam : List Nat} {t : Nat → Value} {a : Act} (k : Known L lam t a.tmps) {x : Operand} {b : Bool} (h : Abs.ev t x = .bool b) : a.eval x = .bool b := by
  rcases k.ev x with e | e
  · rw [h] at e; cases e
  · rw [h] at e; exact e.bool
theorem Known.string {L : Lay} {lam : List Nat} {t : Nat → Value} {a : Act} (k : Known L lam t a.tmps) {x : Operand} {s : ByteArray} (h : Abs.ev t x = .string s) : a.eval x = .string s := by
  rcases k.ev x with e | e
  · rw [h] at e; cases e
  · rw [h] at e; exact e.string
theorem Known.of {L : Lay} {lam : List Nat} {t : Nat → Value} {a : Act} (k : Known L lam t a.tmps) {x : Operand} {v : Value} (h : Abs.ev t x = v) (hv : v ≠ undef) : SVRel L lam v (a.eval x) := by
  rcases k.ev x with e | e
  · exact absurd (h.symm.trans e) hv
  · rw [h] at e; exact e
end Go.Abs
namespace Go.Abs
def bs (q : Bool) (x y : Prop) : Prop := match q with | true => x | false => y
def ibits (op : BinOp) (k : IntKind) (a b : Int) : Int :=
  let x := BitVec.ofInt k.bits a
  let y := BitVec.ofInt k.bits b
  match op with
  | .and => k.wrap (x &&& y).toNat
  | .or => k.wrap (x ||| y).toNat
  | .xor => k.wrap (x ^^^ y).toNat
  | _ => k.wrap (x &&& ~~~y).toNat
def vcInt (op : BinOp) (k : IntKind) (a b : Int) (K : Value → Prop) : Prop :=
  match op with
  | .add => K (.int k (k.wrap (a + b)))
  | .sub => K (.int k (k.wrap (a - b)))
  | .mul => K (.int k (k.wrap (a * b)))
  | .quo => b ≠ 0 ∧ K (.int k (k.wrap (a.tdiv b)))
  | .rem => b ≠ 0 ∧ K (.int k (a.tmod b))
  | .and => K (.int k (ibits .and k a b))
  | .or => K (.int k (ibits .or k a b))
  | .xor => K (.int k (ibits .xor k a b))
  | .andNot => K (.int k (ibits .andNot k a b))
  | .eql => K (.bool (decide (a = b)))
  | .neq => K (.bool (!decide (a = b)))
  | .lss => K (.bool (decide (a < b)))
  | .leq => K (.bool (decide (a ≤ b)))
  | .gtr => K (.bool (decide (a > b)))
  | .geq => K (.bool (decide (a ≥ b)))
  | _ => False
def vcStr (op : BinOp) (a b : ByteArray) (K : Value → Prop) : Prop :=
  match op with
  | .add => a.size + b.size ≤ 9223372036854775807 ∧ K (.string (a ++ b))
  | .eql => K (.bool (decide (a = b)))
  | .neq => K (.bool (!decide (a = b)))
  | .lss => K (.bool (Op.bytesLess a.toList b.toList))
  | .leq => K (.bool (Op.bytesLess a.toList b.toList || decide (a = b)))
  | .gtr => K (.bool (!(Op.bytesLess a.toList b.toList || decide (a = b))))
  | .geq => K (.bool (!Op.bytesLess a.toList b.toList))
  | _ => False
def leafOk : List Value → List Value → Bool
  | [], [] => true
  | .int k _ :: xs, .int k' _ :: ys => k == k' && leafOk xs ys
  | .string _ :: xs, .string _ :: ys => leafOk xs ys
  | .bool _ :: xs, .bool _ :: ys => leafOk xs ys
  | _, _ => false
def leafEq : List Value → List Value → Bool
  | [], [] => true
  | .int _ a :: xs, .int _ b :: ys => decide (a = b) && leafEq xs ys
  | .string a :: xs, .string b :: ys => decide (a = b) && leafEq xs ys
  | .bool a :: xs, .bool b :: ys => a == b && leafEq xs ys
  | _, _ => false
def flatField (P : Program) (f : Field) (v : Value) (i : Nat) : Bool :=
  f.name != "_" && f.offset == i && (match v, P.underlying f.type with | .int _ _, some (.int _) | .string _, some .string | .bool _, some .bool => true | _, _ => false)
def flatFields (P : Program) : List Field → List Value → Nat → Bool
  | [], [], _ => true
  | f :: fs, v :: vs, i => flatField P f v i && flatFields P fs vs (i + 1)
  | _, _, _ => false
def flatStruct (P : Program) (t : TypeId) (vs : List Value) : Bool :=
  (match P.underlying t with | some (.struct fs) => flatFields P fs.toList vs 0 | _ => false) && !P.stoodInHeld t && !P.eqGuardType P.depth t
def isConst : Operand → Bool
  | .const _ => true
  | _ => false
def vcBin (P : Program) (op : BinOp) (t : TypeId) (x y : Operand) (a b : Value) (K : Value → Prop) : Prop :=
  match a, b with
  | .int k m, .int k' n =>
    match op with
    | .shl => 0 ≤ n ∧ K (.int k (k.wrap (m * 2 ^ (min n.toNat k.bits))))
    | .shr => 0 ≤ n ∧ K (.int k (m.fdiv (2 ^ (min n.toNat k.bits))))
    | op => bs (decide (k = k')) (vcInt op k m n K) False
  | .string m, .string n => vcStr op m n K
  | .bool m, .bool n => match P.underlying t with
    | some .bool => (match op with
      | .eql => K (.bool (m == n))
      | .neq => K (.bool (!(m == n)))
      | _ => False)
    | _ => False
  | .slice m i j, .slice none _ _ => match P.underlying t with
    | some (.slice _) => (match op with
      | .eql => K (.bool m.isNone)
      | .neq => K (.bool (!m.isNone))
      | _ => (i = i ∧ j = j ∧ False))
    | _ => False
  | .pointer m, .pointer none => match P.underlying t with
    | some (.pointer _) => (match op with
      | .eql => K (.bool m.isNone)
      | .neq => K (.bool (!m.isNone))
      | _ => False)
    | _ => False
  | .iface _ _, .nilIface => match P.underlying t with
    | some (.interface _) => (match op with
      | .eql => K (.bool false)
      | .neq => K (.bool true)
      | _ => False)
    | _ => False
  | .nilIface, .nilIface => match P.underlying t with
    | some (.interface _) => (bs (isConst x || isConst y) (match op with
      | .eql => K (.bool true)
      | .neq => K (.bool false)
      | _ => False) False)
    | _ => False
  | .agg m, .agg n => bs (flatStruct P t m.toList && leafOk m.toList n.toList) (match op with
      | .eql => K (.bool (leafEq m.toList n.toList))
      | .neq => K (.bool (!leafEq m.toList n.toList))
      | _ => False) False
  | _, _ => False
theorem bs_cases {q : Bool} {x y : Prop} (h : bs q x y) : (q = true ∧ x) ∨ (q = false ∧ y) := by cases q; exact .inr ⟨rfl, h⟩; exact .inl ⟨rfl, h⟩
theorem bs_false {q : Bool} {x : Prop} (h : bs q x False) : q = true ∧ x := (bs_cases h).resolve_right fun h => h.2
theorem toList_beq (a b : ByteArray) : (a.toList == b.toList) = decide (a = b) := by
  by_cases h : a = b
  · subst h; simp
  · rw [decide_eq_false h, beq_eq_false_iff_ne]
    intro e
    apply h
    rw [ByteArray.toList_eq, ByteArray.toList_eq] at e
    cases a; cases b; congr 1; exact Array.toList_inj.1 e
theorem eqf_flat {P : Program} {xs ys : Array Value} (d : Nat) (w : World) : ∀ (fs : List Field) (as bs : List Value) (i : Nat), flatFields P fs as i = true → leafOk as bs = true →
    (∀ (j : Nat) (v : Value), as[j]? = some v → xs[i + j]? = some v) → (∀ (j : Nat) (v : Value), bs[j]? = some v → ys[i + j]? = some v) →
    (Op.eqFields (d + 1) xs ys fs).run P w = .ok (leafEq as bs) w
  | [], as, bs, i, hf, hok, _, _ => by
    cases as with
    | nil => cases bs with
      | nil => simp [Op.eqFields, leafEq]
      | cons b bs => simp [leafOk] at hok
    | cons a as => simp [flatFields] at hf
  | f :: fs, as, bs, i, hf, hok, hx, hy => by
    cases as with
    | nil => simp [flatFields] at hf
    | cons a as =>
    cases bs with
    | nil => cases a <;> simp [leafOk] at hok
    | cons b bs =>
    simp only [flatFields, Bool.and_eq_true] at hf
    obtain ⟨hf1, hf2⟩ := hf
    simp only [flatField, Bool.and_eq_true, bne_iff_ne, beq_iff_eq] at hf1
    obtain ⟨⟨hn, ho⟩, hu⟩ := hf1
    have hxa := hx 0 a rfl
    have hyb := hy 0 b rfl
    rw [Nat.add_zero, ← ho] at hxa hyb
    have ih := fun (h : leafOk as bs = true) => eqf_flat d w fs as bs (i + 1) hf2 h (fun j v hj => by rw [Nat.add_assoc, Nat.add_comm 1 j]; exact hx (j + 1) v hj) (fun j v hj => by rw [Nat.add_assoc, Nat.add_comm 1 j]; exact hy (j + 1) v hj)
    have tail : leafOk as bs = true → (∀ (zs : Array Value) (v : Value), zs[f.offset]? = some v → (part f.type zs f.offset).run P w = .ok v w) → ∀ q, (Op.equalIn (d + 1) f.type a b).run P w = .ok q w → (Op.eqFields (d + 1) xs ys (f :: fs)).run P w = .ok (q && leafEq as bs) w := by
      intro h hpart q hq
      simp only [Op.eqFields, if_pos hn, Sem.run_bind, hpart xs a hxa, hpart ys b hyb, hq, Result.andThen_ok]
      cases q
      · simp
      · simpa using ih h
    cases hd : P.underlying f.type with
    | none => rw [hd] at hu; cases a <;> cases hu
    | some dd =>
    rw [hd] at hu
    cases a <;> cases b <;> simp only [leafOk, Bool.and_eq_true, beq_iff_eq, Bool.false_eq_true] at hok <;> cases dd <;> simp at hu
    case bool.bool.bool p q =>
      exact tail hok (by intro zs v hz; simp [part, isAgg, run_underlying hd, hz]) (p == q) (by simp [Op.equalIn, run_underlying hd])
    case int.int.int k m k' n _ =>
      obtain ⟨rfl, hok⟩ := hok
      exact tail hok (by intro zs v hz; simp [part, isAgg, run_underlying hd, hz]) (m == n) (by simp [Op.equalIn, run_underlying hd])
    case string.string.string p q =>
      have := tail hok (by intro zs v hz; simp [part, isAgg, run_underlying hd, hz]) (p.toList == q.toList) (by rw [← beq_toListBytes]; simp [Op.equalIn, run_underlying hd])
      rw [toList_beq] at this; exact this
theorem exec_bin {P : Program} {o : Oper} {op : BinOp} {t yt : TypeId} {x y : Operand} (ho : o.op = .binOp op t x y yt) {a : Act} {V : Value} {w : World}
    (hg : (eqGuard op t x y (a.eval x) (a.eval y)).run P w = .ok () w) (hb : (binOp op t (a.eval x) (a.eval y)).run P w = .ok V w) : (execOp a.eval o).run P w = .ok (.value V) w := by
  unfold execOp; rw [ho]
  simp only [Sem.run_bind, hg, hb, Result.andThen_ok, Sem.run_pure]
theorem guard_plain {P : Program} {op : BinOp} {t : TypeId} {x y : Operand} {A B : Value} {w : World}
    (h : ∀ cs, A ≠ .agg cs) (h2 : A ≠ .nilIface) : (eqGuard op t x y A B).run P w = .ok () w := by
  unfold eqGuard
  cases op <;> first | rfl | (cases A <;> first | rfl | exact absurd rfl (h _) | exact absurd rfl h2)
section
variable {P : Program} {t : TypeId} {w : World}
theorem eq_bool (hu : P.underlying t = some .bool) (a b : Bool) : (Op.equal t (.bool a) (.bool b)).run P w = .ok (a == b) w := run_equalIn_bool' w 9999 t a b hu
theorem eq_slice_d (d : Nat) {e : TypeId} (hu : P.underlying t = some (.slice e)) (m : Option Addr) (i j k l : Nat) : (Op.equalIn (d + 1) t (.slice m i j) (.slice none k l)).run P w = .ok m.isNone w := by
  cases m <;> simp [Op.equalIn, run_underlying hu]
theorem eq_slice {e : TypeId} (hu : P.underlying t = some (.slice e)) (m : Option Addr) (i j k l : Nat) : (Op.equal t (.slice m i j) (.slice none k l)).run P w = .ok m.isNone w := eq_slice_d 9999 hu m i j k l
theorem eq_ptr_d (d : Nat) {e : TypeId} (hu : P.underlying t = some (.pointer e)) (m : Option Addr) : (Op.equalIn (d + 1) t (.pointer m) (.pointer none)).run P w = .ok m.isNone w := by
  cases m <;> simp [Op.equalIn, run_underlying hu]
theorem eq_ptr {e : TypeId} (hu : P.underlying t = some (.pointer e)) (m : Option Addr) : (Op.equal t (.pointer m) (.pointer none)).run P w = .ok m.isNone w := eq_ptr_d 9999 hu m
theorem eq_if_d (d : Nat) {e : Array (String × TypeId)} (hu : P.underlying t = some (.interface e)) (u : TypeId) (v : Value) : (Op.equalIn (d + 1) t (.iface u v) .nilIface).run P w = .ok false w := by
  simp [Op.equalIn, run_underlying hu]
theorem eq_if {e : Array (String × TypeId)} (hu : P.underlying t = some (.interface e)) (u : TypeId) (v : Value) : (Op.equal t (.iface u v) .nilIface).run P w = .ok false w := eq_if_d 9999 hu u v
theorem eq_nn_d (d : Nat) {e : Array (String × TypeId)} (hu : P.underlying t = some (.interface e)) : (Op.equalIn (d + 1) t .nilIface .nilIface).run P w = .ok true w := by
  simp [Op.equalIn, run_underlying hu]
theorem eq_nn {e : Array (String × TypeId)} (hu : P.underlying t = some (.interface e)) : (Op.equal t .nilIface .nilIface).run P w = .ok true w := eq_nn_d 9999 hu
end
theorem leaf_same {L : Lay} : ∀ {as bs : List Value}, leafOk as bs = true → ∀ (j : Nat) (v : Value), (as[j]? = some v ∨ bs[j]? = some v) → ∀ V, VRel L v V → V = v
  | as, bs, hok, j, v, hv, V, hr => by
    unfold leafOk at hok
    split at hok
    · simp at hv
    · simp only [Bool.and_eq_true] at hok
      cases j with
      | zero => simp at hv; rcases hv with rfl | rfl <;> cases hr <;> rfl
      | succ j => exact leaf_same hok.2 j v (by simpa using hv) V hr
    · cases j with
      | zero => simp at hv; rcases hv with rfl | rfl <;> cases hr <;> rfl
      | succ j => exact leaf_same hok j v (by simpa using hv) V hr
    · cases j with
      | zero => simp at hv; rcases hv with rfl | rfl <;> cases hr <;> rfl
      | succ j => exact leaf_same hok j v (by simpa using hv) V hr
    · cases hok
theorem leaf_both {L : Lay} {as bs : List Value} (hok : leafOk as bs = true) (A B : Array Value) (hA : ∀ (j : Nat) (v : Value), as[j]? = some v → ∃ V, A[j]? = some V ∧ VRel L v V)
    (hB : ∀ (j : Nat) (v : Value), bs[j]? = some v → ∃ V, B[j]? = some V ∧ VRel L v V) :
    (∀ (j : Nat) (v : Value), as[j]? = some v → A[j]? = some v) ∧ (∀ (j : Nat) (v : Value), bs[j]? = some v → B[j]? = some v) :=
  ⟨fun j v hv => let ⟨V, h1, h2⟩ := hA j v hv; (leaf_same hok j v (.inl hv) V h2) ▸ h1, fun j v hv => let ⟨V, h1, h2⟩ := hB j v hv; (leaf_same hok j v (.inr hv) V h2) ▸ h1⟩
theorem int_run {P : Program} {op : BinOp} {k : IntKind} {m n : Int} {K : Value → Prop} (hop : op ≠ .shl ∧ op ≠ .shr) (h : vcInt op k m n K) :
    ∃ v, K v ∧ (∀ L lam, SVRel L lam v v) ∧ ∀ (t : TypeId) (w : World), (binOp op t (.int k m) (.int k n)).run P w = .ok v w := by
  obtain ⟨h1, h2⟩ := hop
  cases op <;> simp only [vcInt] at h <;> first | exact absurd rfl h1 | exact absurd rfl h2 | skip
  case quo => exact ⟨_, h.2, fun _ _ => .of (.int _ _), fun t w => by simp [binOp, Op.intDiv, h.1]⟩
  case rem => exact ⟨_, h.2, fun _ _ => .of (.int _ _), fun t w => by simp [binOp, Op.intDiv, h.1]⟩
  all_goals first
    | exact ⟨_, h, fun _ _ => .of (.int _ _), fun t w => by simp [binOp, Op.intArith, Op.intBits, ibits]⟩
    | exact ⟨_, h, fun _ _ => .of (.bool _), fun t w => by simp [binOp, Op.intCmp]; try rfl⟩
theorem str_run {P : Program} {op : BinOp} {m n : ByteArray} {K : Value → Prop} (h : vcStr op m n K) :
    ∃ v, K v ∧ (∀ L lam, SVRel L lam v v) ∧ ∀ (t : TypeId) (w : World), (binOp op t (.string m) (.string n)).run P w = .ok v w := by
  cases op <;> simp only [vcStr] at h
  case add =>
    refine ⟨_, h.2, fun _ _ => .of (.string _), fun t w => ?_⟩
    have h1 := h.1
    have : ¬ (((m.size + n.size : Nat) : Int) > IntKind.i64.max) := by
      have e : IntKind.i64.max = 9223372036854775807 := by decide
      rw [e]; omega
    simp only [binOp, Op.stringOp, if_neg this, Sem.run_pure]
  all_goals exact ⟨_, h, fun _ _ => .of (.bool _), fun t w => by simp only [binOp, Op.stringOp, toList_beq, Sem.run_pure]⟩
theorem bin_sound {P : Program} {o : Oper} {st : St} {op : BinOp} {t yt : TypeId} {x y : Operand} (ho : o.op = .binOp op t x y yt) {K : Value → Prop}
    (h : vcBin P op t x y (ev st.t x) (ev st.t y) K) : ∃ v, K v ∧ PSem P o st.t v := by
  unfold vcBin at h
  split at h
  · rename_i k m k' n hx hy
    split at h
    · refine ⟨_, h.2, .pure fun L lam a kn => ⟨_, .inr (.of (.int _ _)), fun w => exec_bin ho (guard_plain (by rw [kn.int hx]; simp) (by rw [kn.int hx]; simp)) ?_⟩⟩
      rw [kn.int hx, kn.int hy]; simp [binOp, Op.shift, show ¬ n < 0 from by omega]
    · refine ⟨_, h.2, .pure fun L lam a kn => ⟨_, .inr (.of (.int _ _)), fun w => exec_bin ho (guard_plain (by rw [kn.int hx]; simp) (by rw [kn.int hx]; simp)) ?_⟩⟩
      rw [kn.int hx, kn.int hy]; simp [binOp, Op.shift, show ¬ n < 0 from by omega]
    · rename_i h1 h2
      obtain ⟨e, h'⟩ := bs_false h
      have e' := of_decide_eq_true e
      subst e'
      obtain ⟨v, hk, hv, hr⟩ := int_run (P := P) (K := K) ⟨h1, h2⟩ h'
      exact ⟨v, hk, .pure fun L lam a kn => ⟨v, .inr (hv L lam), fun w => exec_bin ho (guard_plain (by rw [kn.int hx]; simp) (by rw [kn.int hx]; simp)) (by rw [kn.int hx, kn.int hy]; exact hr t w)⟩⟩
  · rename_i m n hx hy
    obtain ⟨v, hk, hv, hr⟩ := str_run (P := P) h
    exact ⟨v, hk, .pure fun L lam a kn => ⟨v, .inr (hv L lam), fun w => exec_bin ho (guard_plain (by rw [kn.string hx]; simp) (by rw [kn.string hx]; simp)) (by rw [kn.string hx, kn.string hy]; exact hr t w)⟩⟩
  · rename_i m n hx hy
    split at h
    · rename_i hu
      split at h
      · exact ⟨_, h, .pure fun L lam a kn => ⟨_, .inr (.of (.bool _)), fun w => exec_bin ho (guard_plain (by rw [kn.bool hx]; simp) (by rw [kn.bool hx]; simp)) (by rw [kn.bool hx, kn.bool hy]; simp [binOp, eq_bool hu])⟩⟩
      · exact ⟨_, h, .pure fun L lam a kn => ⟨_, .inr (.of (.bool _)), fun w => exec_bin ho (guard_plain (by rw [kn.bool hx]; simp) (by rw [kn.bool hx]; simp)) (by rw [kn.bool hx, kn.bool hy]; simp [binOp, eq_bool hu])⟩⟩
      · exact h.elim
    · exact h.elim
  · rename_i m i j n1 n2 hx hy
    split at h
    · rename_i e hu
      have key : ∀ (L : Lay) (lam : List Nat) (a : Act), Known L lam st.t a.tmps → ∃ M i' j' c d, a.eval x = .slice M i' j' ∧ a.eval y = .slice none c d ∧ m.isNone = M.isNone := by
        intro L lam a kn
        have r1 : VRel L _ _ := kn.of hx (by simp [undef])
        have r2 : VRel L _ _ := kn.of hy (by simp [undef])
        generalize a.eval x = X at r1
        generalize a.eval y = Y at r2
        cases r2
        cases r1
        · exact ⟨_, _, _, _, _, rfl, rfl, rfl⟩
        · exact ⟨_, _, _, _, _, rfl, rfl, rfl⟩
      split at h
      · refine ⟨_, h, .pure fun L lam a kn => ⟨_, .inr (.of (.bool _)), fun w => ?_⟩⟩
        obtain ⟨M, i', j', c, d, e1, e2, e3⟩ := key L lam a kn
        refine exec_bin ho (guard_plain (by rw [e1]; simp) (by rw [e1]; simp)) ?_
        rw [e1, e2, e3]; simp [binOp, eq_slice hu]
      · refine ⟨_, h, .pure fun L lam a kn => ⟨_, .inr (.of (.bool _)), fun w => ?_⟩⟩
        obtain ⟨M, i', j', c, d, e1, e2, e3⟩ := key L lam a kn
        refine exec_bin ho (guard_plain (by rw [e1]; simp) (by rw [e1]; simp)) ?_
        rw [e1, e2, e3]; simp [binOp, eq_slice hu]
      · exact h.2.2.elim
    · exact h.elim
  · rename_i m hx hy
    split at h
    · rename_i e hu
      have key : ∀ (L : Lay) (lam : List Nat) (a : Act), Known L lam st.t a.tmps → ∃ M, a.eval x = .pointer M ∧ a.eval y = .pointer none ∧ m.isNone = M.isNone := by
        intro L lam a kn
        have r1 : VRel L _ _ := kn.of hx (by simp [undef])
        have r2 : VRel L _ _ := kn.of hy (by simp [undef])
        generalize a.eval x = X at r1
        generalize a.eval y = Y at r2
        cases r2
        cases r1
        · exact ⟨_, rfl, rfl, rfl⟩
        · exact ⟨_, rfl, rfl, rfl⟩
      split at h
      · refine ⟨_, h, .pure fun L lam a kn => ⟨_, .inr (.of (.bool _)), fun w => ?_⟩⟩
        obtain ⟨M, e1, e2, e3⟩ := key L lam a kn
        refine exec_bin ho (guard_plain (by rw [e1]; simp) (by rw [e1]; simp)) ?_
        rw [e1, e2, e3]; simp [binOp, eq_ptr hu]
      · refine ⟨_, h, .pure fun L lam a kn => ⟨_, .inr (.of (.bool _)), fun w => ?_⟩⟩
        obtain ⟨M, e1, e2, e3⟩ := key L lam a kn
        refine exec_bin ho (guard_plain (by rw [e1]; simp) (by rw [e1]; simp)) ?_
        rw [e1, e2, e3]; simp [binOp, eq_ptr hu]
      · exact h.elim
    · exact h.elim
  · rename_i ty v hx hy
    split at h
    · rename_i e hu
      have key : ∀ (L : Lay) (lam : List Nat) (a : Act), Known L lam st.t a.tmps → ∃ V, a.eval x = .iface ty V ∧ a.eval y = .nilIface := by
        intro L lam a kn
        have r1 : VRel L _ _ := kn.of hx (by simp [undef])
        have r2 : VRel L _ _ := kn.of hy (by simp [undef])
        generalize a.eval x = X at r1
        generalize a.eval y = Y at r2
        cases r2
        cases r1
        exact ⟨_, rfl, rfl⟩
      split at h
      · refine ⟨_, h, .pure fun L lam a kn => ⟨_, .inr (.of (.bool _)), fun w => ?_⟩⟩
        obtain ⟨V, e1, e2⟩ := key L lam a kn
        refine exec_bin ho (guard_plain (by rw [e1]; simp) (by rw [e1]; simp)) ?_
        rw [e1, e2]; simp [binOp, eq_if hu]
      · refine ⟨_, h, .pure fun L lam a kn => ⟨_, .inr (.of (.bool _)), fun w => ?_⟩⟩
        obtain ⟨V, e1, e2⟩ := key L lam a kn
        refine exec_bin ho (guard_plain (by rw [e1]; simp) (by rw [e1]; simp)) ?_
        rw [e1, e2]; simp [binOp, eq_if hu]
      · exact h.elim
    · exact h.elim
  · rename_i hx hy
    split at h
    · rename_i e hu
      obtain ⟨hc, h⟩ := bs_false h
      have key : ∀ (L : Lay) (lam : List Nat) (a : Act), Known L lam st.t a.tmps → a.eval x = .nilIface ∧ a.eval y = .nilIface := by
        intro L lam a kn
        have r1 : VRel L _ _ := kn.of hx (by simp [undef])
        have r2 : VRel L _ _ := kn.of hy (by simp [undef])
        generalize a.eval x = X at r1
        generalize a.eval y = Y at r2
        cases r2
        cases r1
        exact ⟨rfl, rfl⟩
      have gd : ∀ (op : BinOp) (w : World), (eqGuard op t x y .nilIface .nilIface).run P w = .ok () w := by
        intro op w
        unfold eqGuard
        cases op <;> first | rfl | (cases x <;> cases y <;> first | rfl | cases hc)
      split at h
      · refine ⟨_, h, .pure fun L lam a kn => ⟨_, .inr (.of (.bool _)), fun w => ?_⟩⟩
        obtain ⟨e1, e2⟩ := key L lam a kn
        refine exec_bin ho (by rw [e1, e2]; exact gd _ w) ?_
        rw [e1, e2]; simp [binOp, eq_nn hu]
      · refine ⟨_, h, .pure fun L lam a kn => ⟨_, .inr (.of (.bool _)), fun w => ?_⟩⟩
        obtain ⟨e1, e2⟩ := key L lam a kn
        refine exec_bin ho (by rw [e1, e2]; exact gd _ w) ?_
        rw [e1, e2]; simp [binOp, eq_nn hu]
      · exact h.elim
    · exact h.elim
  · rename_i m n hx hy
    obtain ⟨hc, h⟩ := bs_false h
    simp only [Bool.and_eq_true] at hc
    obtain ⟨hfl, hok⟩ := hc
    simp only [flatStruct, Bool.and_eq_true, Bool.not_eq_true'] at hfl
    obtain ⟨⟨hu, hp⟩, hg⟩ := hfl
    cases hd : P.underlying t with
    | none => rw [hd] at hu; cases hu
    | some dd =>
    rw [hd] at hu
    cases dd <;> simp only [Bool.false_eq_true] at hu
    rename_i fs
    have key : ∀ (L : Lay) (lam : List Nat) (a : Act), Known L lam st.t a.tmps → ∃ M N, a.eval x = .agg M ∧ a.eval y = .agg N ∧ (∀ (j : Nat) (v : Value), m.toList[j]? = some v → M[j]? = some v) ∧ (∀ (j : Nat) (v : Value), n.toList[j]? = some v → N[j]? = some v) := by
      intro L lam a kn
      obtain ⟨M, e1, s1, r1⟩ := (kn.of hx (by simp [undef])).agg
      obtain ⟨N, e2, s2, r2⟩ := (kn.of hy (by simp [undef])).agg
      have := leaf_both (L := L) hok M N
        (fun j v hv => by
          rw [Array.getElem?_toList] at hv
          have hlt : j < M.size := by have := (Array.getElem?_eq_some_iff.1 hv).1; omega
          exact ⟨M[j], Array.getElem?_eq_getElem hlt, r1 j v _ hv (Array.getElem?_eq_getElem hlt)⟩)
        (fun j v hv => by
          rw [Array.getElem?_toList] at hv
          have hlt : j < N.size := by have := (Array.getElem?_eq_some_iff.1 hv).1; omega
          exact ⟨N[j], Array.getElem?_eq_getElem hlt, r2 j v _ hv (Array.getElem?_eq_getElem hlt)⟩)
      exact ⟨M, N, e1, e2, this.1, this.2⟩
    have gd : ∀ (op : BinOp) (M N : Array Value) (w : World), (eqGuard op t x y (.agg M) (.agg N)).run P w = .ok () w := by
      intro op M N w
      unfold eqGuard
      cases op <;> first | rfl | simp [hg]
    have run : ∀ (M N : Array Value) (w : World), (∀ (j : Nat) (v : Value), m.toList[j]? = some v → M[j]? = some v) → (∀ (j : Nat) (v : Value), n.toList[j]? = some v → N[j]? = some v) → (Op.equal t (.agg M) (.agg N)).run P w = .ok (leafEq m.toList n.toList) w := by
      intro M N w h1 h2
      have hfs : P.fieldsOf t = fs := by simp [Program.fieldsOf, hd]
      unfold Op.equal Op.maxDepth
      rw [run_equalIn_struct w 9999 t M N (by rw [hfs]; exact hd) hp, hfs]
      exact eqf_flat 9998 w fs.toList m.toList n.toList 0 hu hok (fun j v hv => by rw [Nat.zero_add]; exact h1 j v hv) (fun j v hv => by rw [Nat.zero_add]; exact h2 j v hv)
    split at h
    · refine ⟨_, h, .pure fun L lam a kn => ⟨_, .inr (.of (.bool _)), fun w => ?_⟩⟩
      obtain ⟨M, N, e1, e2, h1, h2⟩ := key L lam a kn
      refine exec_bin ho (by rw [e1, e2]; exact gd _ _ _ w) ?_
      rw [e1, e2]; simp [binOp, run M N w h1 h2]
    · refine ⟨_, h, .pure fun L lam a kn => ⟨_, .inr (.of (.bool _)), fun w => ?_⟩⟩
      obtain ⟨M, N, e1, e2, h1, h2⟩ := key L lam a kn
      refine exec_bin ho (by rw [e1, e2]; exact gd _ _ _ w) ?_
      rw [e1, e2]; simp [binOp, run M N w h1 h2]
    · exact h.elim
  · exact h.elim
end Go.Abs
namespace Go.Abs
def okv : Value → Bool
  | .chan _ => false
  | .tuple _ => false
  | .complex _ _ _ => false
  | _ => true
theorem SVRel.ok {L : Lay} {lam : List Nat} {v V : Value} (h : SVRel L lam v V) (hv : okv v = true) : VRel L v V := by
  cases v <;> first | exact h | cases hv
theorem okv_nj {v : Value} (h : okv v = true) : v ≠ .chan none := by rintro rfl; cases h
theorem plain_nj {v : Value} (h : plain v = true) : v ≠ .chan none := by rintro rfl; cases h
theorem okv_ne {v : Value} (h : okv v = true) : v ≠ undef := by rintro rfl; cases h
theorem Known.ok {L : Lay} {lam : List Nat} {t : Nat → Value} {a : Act} (k : Known L lam t a.tmps) {x : Operand} (h : okv (Abs.ev t x) = true) : VRel L (Abs.ev t x) (a.eval x) :=
  (k.of rfl (okv_ne h)).ok h
def szOf (P : Program) (t : TypeId) : Option Nat := (P.info? t).map (·.size)
def aggOf (P : Program) (t : TypeId) : Option Bool := match P.underlying t with | some (.struct _) | some (.array _ _) => some true | some _ => some false | none => none
def mkV (agg : Bool) (vs : List Value) : Value := match agg with | true => .agg vs.toArray | false => vs.headD undef
def byteAt (s : ByteArray) (i : Int) : Int := ((s.data.toList.getD i.toNat 0).toNat : Int)
def shiftA (a : Option Addr) (k : Nat) : Option Addr := a.map fun x => ⟨x.block, x.off + k, x.spot⟩
def vcUn (op : UnOp) (v : Value) (K : Value → Prop) : Prop :=
  match op, v with
  | .neg, .int k n => K (.int k (k.wrap (0 - n)))
  | .xor, .int k n => K (.int k (ibits .xor k (match k.signed with | true => -1 | false => k.max) n))
  | .not, .bool b => K (.bool (!b))
  | _, _ => False
def vcConv (P : Program) (src dst : TypeId) (v : Value) (K : Value → Prop) : Prop :=
  match v with
  | .int _ n => match P.underlying src, P.underlying dst with
    | some _, some (.int k) => K (.int k (k.wrap n))
    | _, _ => False
  | .string s => match P.underlying src, P.underlying dst with
    | some _, some .string => K (.string s)
    | _, _ => False
  | _ => False
def vcNil (v : Value) (K : Value → Prop) : Prop :=
  match v with
  | .pointer (some ⟨l, r, some c⟩) => K (.pointer (some ⟨l, r, some c⟩))
  | .complex .f32 i c => K (.complex .f32 i c)
  | .func (.func f) a b => K (.func (.func f) a b)
  | _ => False
def vcFieldAddr (P : Program) (s : TypeId) (v : Value) (f : Nat) (K : Value → Prop) : Prop :=
  match P.underlying s with
  | some (.struct fs) => match fs[f]? with
    | some fd => match szOf P fd.type with
      | some (_ + 1) => match v with
        | .complex .f32 i c => K (.complex .f32 i (c + fd.offset))
        | .pointer (some ⟨l, r, some c⟩) => K (.pointer (some ⟨l, r, some (c + fd.offset)⟩))
        | _ => False
      | _ => False
    | none => False
  | _ => False
def vcPart (P : Program) (t : TypeId) (cs : List Value) (off : Nat) (K : Value → Prop) : Prop :=
  match aggOf P t, szOf P t with
  | some true, some n => K (.agg ((cs.drop off).take n).toArray)
  | some false, _ => match cs[off]? with
    | some v => K v
    | none => False
  | _, _ => False
def vcField (P : Program) (s : TypeId) (v : Value) (f : Nat) (K : Value → Prop) : Prop :=
  match P.underlying s with
  | some (.struct fs) => match fs[f]? with
    | some fd => match v with
      | .agg cs => vcPart P fd.type cs.toList fd.offset K
      | _ => False
    | none => False
  | _ => False
def vcIndex (P : Program) (t : TypeId) (v : Value) (i : Value) (K : Value → Prop) : Prop :=
  match i with
  | .int _ n => match P.underlying t with
    | some .string => match v with
      | .string s => 0 ≤ n ∧ n < s.size ∧ K (.int .u8 (byteAt s n))
      | _ => False
    | some (.array len e) => match v, szOf P e with
      | .agg cs, some z => 0 ≤ n ∧ n < len ∧ vcPart P e cs.toList (n.toNat * z) K
      | _, _ => False
    | _ => False
  | _ => False
def vcIndexAddr (P : Program) (t : TypeId) (v : Value) (i : Value) (K : Value → Prop) : Prop :=
  match i with
  | .int _ n => match P.underlying t with
    | some (.slice e) => match v, szOf P e with
      | .slice a m _, some z => ∃ l r, a = some ⟨l, r, some z⟩ ∧ 0 ≤ n ∧ n < m ∧ K (.pointer (some ⟨l, r + n.toNat, some 0⟩))
      | _, _ => False
    | some (.array len e) => match szOf P e with
      | some z => match v with
        | .complex .f32 j c => 0 ≤ n ∧ n < len ∧ K (.complex .f32 j (c + n.toNat * z))
        | .pointer (some ⟨l, r, some c⟩) => 0 ≤ n ∧ n < len ∧ K (.pointer (some ⟨l, r, some (c + n.toNat * z)⟩))
        | _ => False
      | none => False
    | _ => False
  | _ => False
def vcBound (v : Option Value) (d : Int) (K : Int → Prop) : Prop :=
  match v with
  | none => K d
  | some (.int _ n) => K n
  | _ => False
def vcSlice (P : Program) (t : TypeId) (v : Value) (lo hi mx : Option Value) (K : Value → Prop) : Prop :=
  match P.underlying t with
  | some .string => match v, mx with
    | .string s, none => vcBound lo 0 fun l => vcBound hi s.size fun h => 0 ≤ l ∧ l ≤ h ∧ h ≤ s.size ∧ K (.string (s.extract l.toNat h.toNat))
    | _, _ => False
  | some (.slice e) => match v, szOf P e with
    | .slice a n c, some z => match mx with
      | none => vcBound lo 0 fun l => vcBound hi n fun h => 0 ≤ l ∧ l ≤ h ∧ (h ≤ n ∨ c ≠ 0 ∧ h < c) ∧ (∀ x, a = some x → x.spot = some z) ∧ K (.slice (shiftA a l.toNat) (h.toNat - l.toNat) (bif c == 0 then 0 else c - l.toNat))
      | some (.int _ m) => vcBound lo 0 fun l => (match hi with | some (.int _ h) => 0 ≤ l ∧ l ≤ h ∧ h ≤ m ∧ m ≤ n ∧ (∀ x, a = some x → x.spot = some z) ∧ a.isSome = true ∧ K (.slice (shiftA a l.toNat) (h.toNat - l.toNat) (m.toNat - l.toNat + 1)) | _ => False)
      | _ => False
    | _, _ => False
  | _ => False
def vcLen (P : Program) (t : TypeId) (v : Value) (K : Value → Prop) : Prop :=
  match P.underlying t with
  | some .string => match v with | .string s => K (.int .i64 s.size) | _ => False
  | some (.slice _) => match v with | .slice _ n _ => K (.int .i64 n) | _ => False
  | some (.array n _) => K (.int .i64 n)
  | _ => False
def vcCap (P : Program) (t : TypeId) (v : Value) (K : Value → Prop) : Prop :=
  match P.underlying t with
  | some (.slice _) => match v with | .slice _ _ c => c ≠ 0 ∧ K (.int .i64 ((c - 1 : Nat) : Int)) | _ => False
  | _ => False
def vcMin (a b : Value) (K : Value → Prop) : Prop :=
  match a, b with
  | .int k x, .int _ y => K (.int k (if y < x then y else x))
  | _, _ => False
def vcMax (a b : Value) (K : Value → Prop) : Prop :=
  match a, b with
  | .int k x, .int _ y => K (.int k (if y > x then y else x))
  | _, _ => False
def vcExtract (v : Value) (i : Nat) (K : Value → Prop) : Prop :=
  match v with
  | .tuple vs => match vs.toList[i]? with
    | some x => K x
    | none => False
  | _ => False
section
variable {P : Program} {nt : Nat} {o : Oper} {st : St} {K : Value → Prop}
theorem move_sound {x : Operand} (ho : o.op = .move x ∨ o.op = .assign x) (h : K (ev st.t x)) : ∃ v, K v ∧ PSem P o st.t v :=
  ⟨_, h, .pure fun L lam a kn => ⟨a.eval x, kn.ev x, fun w => by unfold execOp; rcases ho with ho | ho <;> rw [ho] <;> rfl⟩⟩
theorem pick_sound {c x y : Operand} (ho : o.op = .pick c x y) {q : Bool} (hq : ev st.t c = .bool q) (h : bs q (K (ev st.t x)) (K (ev st.t y))) : ∃ v, K v ∧ PSem P o st.t v := by
  rcases bs_cases h with ⟨rfl, h⟩ | ⟨rfl, h⟩
  · exact ⟨_, h, .pure fun L lam a kn => ⟨a.eval x, kn.ev x, fun w => by unfold execOp; rw [ho]; simp [kn.bool hq, asBool]⟩⟩
  · exact ⟨_, h, .pure fun L lam a kn => ⟨a.eval y, kn.ev y, fun w => by unfold execOp; rw [ho]; simp [kn.bool hq, asBool]⟩⟩
theorem un_sound {op : UnOp} {t : TypeId} {x : Operand} (ho : o.op = .unOp op t x) (h : vcUn op (ev st.t x) K) : ∃ v, K v ∧ PSem P o st.t v := by
  unfold vcUn at h
  split at h
  · rename_i k n hx
    exact ⟨_, h, .pure fun L lam a kn => ⟨_, .inr (.of (.int _ _)), fun w => by unfold execOp; rw [ho]; simp [kn.int hx, Op.unary, Op.intArith]⟩⟩
  · rename_i k n hx
    exact ⟨_, h, .pure fun L lam a kn => ⟨_, .inr (.of (.int _ _)), fun w => by unfold execOp; rw [ho]; cases hs : k.signed <;> simp [kn.int hx, Op.unary, Op.intBits, ibits, hs]⟩⟩
  · rename_i b hx
    exact ⟨_, h, .pure fun L lam a kn => ⟨_, .inr (.of (.bool _)), fun w => by unfold execOp; rw [ho]; simp [kn.bool hx, Op.unary]⟩⟩
  · exact h.elim
theorem conv_sound {src dst : TypeId} {x : Operand} (ho : o.op = .convert src dst x) (h : vcConv P src dst (ev st.t x) K) : ∃ v, K v ∧ PSem P o st.t v := by
  unfold vcConv at h
  split at h
  · rename_i k n hx
    split at h
    · rename_i d q h1 h2
      exact ⟨_, h, .pure fun L lam a kn => ⟨_, .inr (.of (.int _ _)), fun w => by unfold execOp; rw [ho]; simp [kn.int hx, convert, run_underlying h1, run_underlying h2, Conv.intToInt]⟩⟩
    · exact h.elim
  · rename_i s hx
    split at h
    · rename_i d h1 h2
      exact ⟨_, h, .pure fun L lam a kn => ⟨_, .inr (.of (.string _)), fun w => by unfold execOp; rw [ho]; simp [kn.string hx, convert, run_underlying h1, run_underlying h2]⟩⟩
    · exact h.elim
  · exact h.elim
theorem nil_sound {x : Operand} (ho : o.op = .nilCheck x) (h : vcNil (ev st.t x) K) : ∃ v, K v ∧ PSem P o st.t v := by
  unfold vcNil at h
  split at h
  · rename_i l r c hx
    refine ⟨_, h, .pure fun L lam a kn => ?_⟩
    obtain ⟨s, hs, e⟩ := (kn.of hx (by simp [undef])).ptr
    exact ⟨_, .inr (.of (.ptr hs)), fun w => by unfold execOp; rw [ho]; simp [e]⟩
  · rename_i i c hx
    refine ⟨_, h, .pure fun L lam a kn => ?_⟩
    obtain ⟨b, hb, e⟩ := (kn.of hx (by simp [undef])).lptr
    exact ⟨_, .inr ⟨b, hb, rfl⟩, fun w => by unfold execOp; rw [ho]; simp [e]⟩
  · rename_i f x1 x2 hx
    refine ⟨_, h, .pure fun L lam a kn => ?_⟩
    have r : VRel L _ _ := kn.of hx (by simp [undef])
    have e : ∃ A B, a.eval x = .func (.func f) A B := by
      generalize a.eval x = X at r
      cases r; exact ⟨_, _, rfl⟩
    obtain ⟨A, B, e⟩ := e
    exact ⟨a.eval x, .inr (.of r), fun w => by unfold execOp; rw [ho]; simp [e]⟩
  · exact h.elim
theorem add_addr (b o k : Nat) : (⟨b, o, none⟩ : Addr).add k = ⟨b, o + k, none⟩ := by
  unfold Addr.add; split
  · rename_i h; subst h; rfl
  · rfl
theorem size_run {t : TypeId} {n : Nat} (h : szOf P t = some n) (w : World) : (sizeOf t).run P w = .ok n w := by
  unfold szOf at h
  cases hi : P.info? t with
  | none => rw [hi] at h; cases h
  | some i => rw [hi] at h; simp at h; simp [sizeOf, typeInfo, hi, h]
theorem agg_run {t : TypeId} {b : Bool} (h : aggOf P t = some b) (w : World) : (isAgg t).run P w = .ok b w := by
  unfold aggOf at h
  cases hi : P.underlying t with
  | none => rw [hi] at h; cases h
  | some d => rw [hi] at h; cases d <;> simp at h <;> subst h <;> simp [isAgg, run_underlying hi]
theorem fieldAddr_sound {s : TypeId} {x : Operand} {f : Nat} (ho : o.op = .fieldAddr s x f) (h : vcFieldAddr P s (ev st.t x) f K) : ∃ v, K v ∧ PSem P o st.t v := by
  unfold vcFieldAddr at h
  split at h
  case h_2 => exact h.elim
  rename_i fs hu
  split at h
  case h_2 => exact h.elim
  rename_i fd hf
  split at h
  case h_2 => exact h.elim
  rename_i m hsz
  have run : ∀ (b off : Nat) (w : World), (fieldPlace ⟨b, off, none⟩ fd).run P w = .ok ⟨b, off + fd.offset, none⟩ w := by
    intro b off w
    simp [fieldPlace, size_run hsz, add_addr]
  split at h
  · rename_i i c hx
    refine ⟨_, h, .pure fun L lam a kn => ?_⟩
    obtain ⟨b, hb, e⟩ := (kn.of hx (by simp [undef])).lptr
    exact ⟨_, .inr ⟨b, hb, rfl⟩, fun w => by unfold execOp; rw [ho]; simp [e, Instr.fieldAt, run_underlying hu, hf, Instr.sureAddr, run]⟩
  · rename_i l r c hx
    refine ⟨_, h, .pure fun L lam a kn => ?_⟩
    obtain ⟨q, hq, e⟩ := (kn.of hx (by simp [undef])).ptr
    exact ⟨_, .inr (.of (.ptr hq)), fun w => by unfold execOp; rw [ho]; simp [e, Instr.fieldAt, run_underlying hu, hf, Instr.sureAddr, run, Nat.add_assoc]⟩
  · exact h.elim
theorem part_sound {t : TypeId} {cs : List Value} {off : Nat} (h : vcPart P t cs off K) : ∃ v, K v ∧ ∀ (L : Lay) (ds : Array Value), cs.length = ds.size → (∀ (j : Nat) (x X : Value), cs[j]? = some x → ds[j]? = some X → VRel L x X) →
    ∃ V, VRel L v V ∧ ∀ w, (part t ds off).run P w = .ok V w := by
  unfold vcPart at h
  split at h
  · rename_i n ha hn
    refine ⟨_, h, fun L ds hl hv => ⟨.agg (ds.extract off (off + n)), .agg ?_ ?_, fun w => ?_⟩⟩
    · simp only [List.size_toArray, List.length_take, List.length_drop, Array.size_extract]; omega
    · intro i v V h1 h2
      simp only [List.getElem?_toArray, List.getElem?_take, List.getElem?_drop, Array.getElem?_extract] at h1 h2
      split at h1
      · split at h2
        · exact hv _ _ _ h1 h2
        · cases h2
      · cases h1
    · simp [part, agg_run ha, size_run hn]
  · rename_i ha
    split at h
    · rename_i v hv'
      refine ⟨v, h, fun L ds hl hv => ?_⟩
      have hlt : off < ds.size := by have := (List.getElem?_eq_some_iff.1 hv').1; omega
      refine ⟨ds[off], hv off v _ hv' (Array.getElem?_eq_getElem hlt), fun w => ?_⟩
      simp [part, agg_run ha, Array.getElem?_eq_getElem hlt]
    · exact h.elim
  · exact h.elim
theorem agg_list {L : Lay} {cs ds : Array Value} (h : ARel L cs ds) : cs.toList.length = ds.size ∧ ∀ (j : Nat) (x X : Value), cs.toList[j]? = some x → ds[j]? = some X → VRel L x X :=
  ⟨by rw [Array.length_toList]; exact h.1, fun j x X h1 h2 => h.2 j x X (by rw [← Array.getElem?_toList]; exact h1) h2⟩
theorem field_sound {s : TypeId} {x : Operand} {f : Nat} (ho : o.op = .field s x f) (h : vcField P s (ev st.t x) f K) : ∃ v, K v ∧ PSem P o st.t v := by
  unfold vcField at h
  split at h
  case h_2 => exact h.elim
  rename_i fs hu
  split at h
  case h_2 => exact h.elim
  rename_i fd hf
  split at h
  case h_2 => exact h.elim
  rename_i cs hx
  obtain ⟨v, hk, hp⟩ := part_sound h
  refine ⟨v, hk, .pure fun L lam a kn => ?_⟩
  obtain ⟨ds, e, r⟩ := (kn.of hx (by simp [undef])).agg
  obtain ⟨V, hV, hr⟩ := hp L ds (agg_list r).1 (agg_list r).2
  exact ⟨V, .inr (.of hV), fun w => by unfold execOp; rw [ho]; simp [e, Instr.field, run_underlying hu, hf, asAgg, hr]⟩
theorem index_sound {t : TypeId} {x i : Operand} (ho : o.op = .index t x i) (h : vcIndex P t (ev st.t x) (ev st.t i) K) : ∃ v, K v ∧ PSem P o st.t v := by
  unfold vcIndex at h
  split at h
  case h_2 => exact h.elim
  rename_i k n hi
  split at h
  · rename_i hu
    split at h
    case h_2 => exact h.elim
    rename_i s hx
    obtain ⟨h0, h1, h⟩ := h
    refine ⟨_, h, .pure fun L lam a kn => ⟨_, .inr (.of (.int _ _)), fun w => ?_⟩⟩
    have hlt : n.toNat < s.size := by omega
    have hb : byteAt s n = ((s[n.toNat]'hlt).toNat : Int) := by
      unfold byteAt
      have : n.toNat < s.data.toList.length := by rw [Array.length_toList]; exact hlt
      rw [List.getD_eq_getElem?_getD, List.getElem?_eq_getElem this]; rfl
    unfold execOp; rw [ho]
    simp [kn.int hi, kn.string hx, Instr.index, asIntOf, run_underlying hu, h0, hlt, hb]
  · rename_i len e hu
    split at h
    case h_2 => exact h.elim
    rename_i cs z hx hz
    obtain ⟨h0, h1, h⟩ := h
    obtain ⟨v, hk, hp⟩ := part_sound h
    refine ⟨v, hk, .pure fun L lam a kn => ?_⟩
    obtain ⟨ds, e1, r⟩ := (kn.of hx (by simp [undef])).agg
    obtain ⟨V, hV, hr⟩ := hp L ds (agg_list r).1 (agg_list r).2
    exact ⟨V, .inr (.of hV), fun w => by unfold execOp; rw [ho]; simp [kn.int hi, e1, Instr.index, asIntOf, run_underlying hu, h0, h1, size_run hz, hr]⟩
  · exact h.elim
theorem indexAddr_sound {t : TypeId} {x i : Operand} (ho : o.op = .indexAddr t x i) (h : vcIndexAddr P t (ev st.t x) (ev st.t i) K) : ∃ v, K v ∧ PSem P o st.t v := by
  unfold vcIndexAddr at h
  split at h
  case h_2 => exact h.elim
  rename_i k n hi
  split at h
  · rename_i e hu
    split at h
    case h_2 => exact h.elim
    rename_i ad m c z hx hz
    obtain ⟨l, r, rfl, h0, h1, h⟩ := h
    refine ⟨_, h, .pure fun L lam a kn => ?_⟩
    have rl : VRel L _ _ := kn.of hx (by simp [undef])
    have key : ∃ s A C, L l = some s ∧ s.esz = z ∧ a.eval x = .slice (some A) m C ∧ A = ⟨s.blk, s.base + r * z, none⟩ := by
      generalize a.eval x = X at rl
      cases rl with
      | slice h he hn ha room hc => exact ⟨_, _, _, h, he, rfl, ha.resolve_left (by omega)⟩
    obtain ⟨s, A, C, hl, he, e1, rfl⟩ := key
    refine ⟨_, .inr (.of (.ptr hl)), fun w => ?_⟩
    unfold execOp; rw [ho]
    simp [kn.int hi, e1, Instr.indexAt, asIntOf, run_underlying hu, h0, h1, size_run hz, add_addr, he, Nat.add_mul, Nat.add_assoc]
  · rename_i len e hu
    split at h
    case h_2 => exact h.elim
    rename_i z hz
    split at h
    · rename_i j c hx
      obtain ⟨h0, h1, h⟩ := h
      refine ⟨_, h, .pure fun L lam a kn => ?_⟩
      obtain ⟨b, hb, e1⟩ := (kn.of hx (by simp [undef])).lptr
      exact ⟨_, .inr ⟨b, hb, rfl⟩, fun w => by unfold execOp; rw [ho]; simp [kn.int hi, e1, Instr.indexAt, asIntOf, Instr.sureAddr, run_underlying hu, h0, h1, size_run hz, add_addr]⟩
    · rename_i l r c hx
      obtain ⟨h0, h1, h⟩ := h
      refine ⟨_, h, .pure fun L lam a kn => ?_⟩
      obtain ⟨s, hs, e1⟩ := (kn.of hx (by simp [undef])).ptr
      exact ⟨_, .inr (.of (.ptr hs)), fun w => by unfold execOp; rw [ho]; simp [kn.int hi, e1, Instr.indexAt, asIntOf, Instr.sureAddr, run_underlying hu, h0, h1, size_run hz, add_addr, Nat.add_assoc]⟩
    · exact h.elim
  · exact h.elim
theorem len_sound {c : Call} {x : Operand} {t : TypeId} (ho : o.op = .call c) (hc : c.callee = .builtin .len) (ha : c.args = #[x]) (ht : c.argTypes[0]? = some t) (h : vcLen P t (ev st.t x) K) : ∃ v, K v ∧ PSem P o st.t v := by
  have run : ∀ (a : Act) (w : World) (V : Value), (Builtin.len_ c.argTypes o.type #[a.eval x]).run P w = .ok V w → (execOp a.eval o).run P w = .ok (.value V) w := by
    intro a w V hr
    unfold execOp; rw [ho]
    simp [resolve, hc, ha, invoke, builtin, hr]
  unfold vcLen at h
  split at h
  · rename_i hu
    split at h
    case h_2 => exact h.elim
    rename_i s hx
    exact ⟨_, h, .pure fun L lam a kn => ⟨_, .inr (.of (.int _ _)), fun w => run a w _ (by simp [Builtin.len_, ht, run_underlying hu, kn.string hx, goInt])⟩⟩
  · rename_i e hu
    split at h
    case h_2 => exact h.elim
    rename_i ad m cc hx
    refine ⟨_, h, .pure fun L lam a kn => ⟨_, .inr (.of (.int _ _)), fun w => run a w _ ?_⟩⟩
    have rl : VRel L _ _ := kn.of hx (by simp [undef])
    have key : ∃ A C, a.eval x = .slice A m C := by
      generalize a.eval x = X at rl
      cases rl
      · exact ⟨_, _, rfl⟩
      · exact ⟨_, _, rfl⟩
    obtain ⟨A, C, e1⟩ := key
    simp [Builtin.len_, ht, run_underlying hu, e1, goInt]
  · rename_i n e hu
    exact ⟨_, h, .pure fun L lam a kn => ⟨_, .inr (.of (.int _ _)), fun w => run a w _ (by simp [Builtin.len_, ht, run_underlying hu, goInt])⟩⟩
  · exact h.elim
theorem cap_sound {c : Call} {x : Operand} {t : TypeId} (ho : o.op = .call c) (hc : c.callee = .builtin .cap) (ha : c.args = #[x]) (ht : c.argTypes[0]? = some t) (h : vcCap P t (ev st.t x) K) : ∃ v, K v ∧ PSem P o st.t v := by
  unfold vcCap at h
  split at h
  · rename_i e hu
    split at h
    case h_2 => exact h.elim
    rename_i ad m cc hx
    obtain ⟨h0, h⟩ := h
    refine ⟨_, h, .pure fun L lam a kn => ⟨_, .inr (.of (.int _ _)), fun w => ?_⟩⟩
    have rl : VRel L _ _ := kn.of hx (by simp [undef])
    have key : ∃ A, a.eval x = .slice A m (cc - 1) := by
      generalize a.eval x = X at rl
      cases rl with
      | sliceN => exact absurd rfl h0
      | slice h he hn ha room hc => rcases hc with rfl | rfl
                                    · exact absurd rfl h0
                                    · exact ⟨_, rfl⟩
    obtain ⟨A, e1⟩ := key
    unfold execOp; rw [ho]
    simp [resolve, hc, ha, invoke, builtin, Builtin.cap_, ht, run_underlying hu, e1, goInt]
  · exact h.elim
theorem min_sound {c : Call} {x y : Operand} (ho : o.op = .call c) (hc : c.callee = .builtin .min) (ha : c.args = #[x, y]) (h : vcMin (ev st.t x) (ev st.t y) K) : ∃ v, K v ∧ PSem P o st.t v := by
  unfold vcMin at h
  split at h
  · rename_i k m k' n hx hy
    exact ⟨_, h, .pure fun L lam a kn => ⟨_, .inr (.of (.int _ _)), fun w => by
      unfold execOp; rw [ho]
      simp [resolve, hc, ha, invoke, builtin, Builtin.min_, kn.int hx, kn.int hy, Builtin.min2]⟩⟩
  · exact h.elim
theorem max_sound {c : Call} {x y : Operand} (ho : o.op = .call c) (hc : c.callee = .builtin .max) (ha : c.args = #[x, y]) (h : vcMax (ev st.t x) (ev st.t y) K) : ∃ v, K v ∧ PSem P o st.t v := by
  unfold vcMax at h
  split at h
  · rename_i k m k' n hx hy
    exact ⟨_, h, .pure fun L lam a kn => ⟨_, .inr (.of (.int _ _)), fun w => by
      unfold execOp; rw [ho]
      simp [resolve, hc, ha, invoke, builtin, Builtin.max_, kn.int hx, kn.int hy, Builtin.max2]⟩⟩
  · exact h.elim
theorem extract_sound {x : Operand} {i : Nat} (ho : o.op = .extract x i) (h : vcExtract (ev st.t x) i K) : ∃ v, K v ∧ PSem P o st.t v := by
  unfold vcExtract at h
  split at h
  case h_2 => exact h.elim
  rename_i vs hx
  split at h
  case h_2 => exact h.elim
  rename_i v hv
  refine ⟨v, h, .pure fun L lam a kn => ?_⟩
  rw [Array.getElem?_toList] at hv
  have hne : vs.size ≠ 0 := by have := (Array.getElem?_eq_some_iff.1 hv).1; omega
  obtain ⟨ds, e, s1, r⟩ := (kn.of hx (by intro e; apply hne; simp [undef] at e; rw [e]; rfl)).tuple
  have hlt : i < ds.size := by have := (Array.getElem?_eq_some_iff.1 hv).1; omega
  exact ⟨ds[i], .inr (.of (r i v _ hv (Array.getElem?_eq_getElem hlt))), fun w => by unfold execOp; rw [ho]; simp [e, Instr.extract, Array.getElem?_eq_getElem hlt]⟩
theorem args_rel {L : Lay} {lam : List Nat} {a : Act} (kn : Known L lam st.t a.tmps) (xs : Array Operand) (h : xs.toList.all (fun x => okv (ev st.t x)) = true) : ARel L (xs.map (ev st.t)) (xs.map a.eval) := by
  refine ⟨by simp, fun i v V h1 h2 => ?_⟩
  simp only [Array.getElem?_map, Option.map_eq_some_iff] at h1 h2
  obtain ⟨x, hx, rfl⟩ := h1
  obtain ⟨y, hy, rfl⟩ := h2
  obtain rfl := Option.some.inj (hx.symm.trans hy)
  exact kn.ok (List.all_eq_true.1 h x (Array.mem_toList_iff.2 (Array.mem_of_getElem? hx)))
theorem makeFunc_sound {fn : Fn} {xs ys : Array Operand} (ho : o.op = .makeFunc fn xs ys) (h1 : xs.toList.all (fun x => okv (ev st.t x)) = true) (h2 : ys.toList.all (fun x => okv (ev st.t x)) = true)
    (h : K (.func fn (xs.map (ev st.t)) (ys.map (ev st.t)))) : ∃ v, K v ∧ PSem P o st.t v :=
  ⟨_, h, .pure fun L lam a kn => ⟨_, .inr (.of (.fn fn (args_rel kn xs h1).1 (args_rel kn xs h1).2 (args_rel kn ys h2).1 (args_rel kn ys h2).2)), fun w => by unfold execOp; rw [ho]; simp [Instr.makeFunc]⟩⟩
theorem makeIface_sound {t : TypeId} {x : Operand} {d : TypeDesc} (ho : o.op = .makeInterface t x) (hd : P.underlying t = some d) (hn : ∀ ms, d ≠ .interface ms) (hx : okv (ev st.t x) = true) (h : K (.iface t (ev st.t x))) : ∃ v, K v ∧ PSem P o st.t v :=
  ⟨_, h, .pure fun L lam a kn => ⟨_, .inr (.of (.iface t (kn.ok hx))), fun w => by
    unfold execOp; rw [ho]; simp [Instr.makeInterface, run_underlying hd]
    try (split; exact absurd rfl (hn _); rfl)⟩⟩
end
end Go.Abs
namespace Go.Abs
def setRange (row : List Value) (c : Nat) (vs : List Value) : List Value := row.take c ++ vs ++ row.drop (c + vs.length)
theorem setRange_length {row : List Value} {c : Nat} {vs : List Value} (h : c + vs.length ≤ row.length) : (setRange row c vs).length = row.length := by
  simp only [setRange, List.length_append, List.length_take, List.length_drop]; omega
theorem setRange_get {row : List Value} {c : Nat} {vs : List Value} (h : c + vs.length ≤ row.length) (j : Nat) :
    (setRange row c vs)[j]? = if j < c then row[j]? else if j < c + vs.length then vs[j - c]? else row[j]? := by
  unfold setRange
  have hc : (row.take c).length = c := by rw [List.length_take]; omega
  by_cases h1 : j < c
  · rw [if_pos h1, List.append_assoc, List.getElem?_append_left (by omega), List.getElem?_take, if_pos h1]
  · rw [if_neg h1, List.append_assoc, List.getElem?_append_right (by omega), hc]
    by_cases h2 : j < c + vs.length
    · rw [if_pos h2, List.getElem?_append_left (by omega)]
    · rw [if_neg h2, List.getElem?_append_right (by omega), List.getElem?_drop]; congr 1; omega
def oneLeaf (v : Value) : Bool := match v with | .agg _ => false | .tuple _ => false | .complex _ _ _ => false | .chan _ => false | _ => true
theorem oneLeaf_rel {L : Lay} {v V : Value} (h : VRel L v V) (hv : oneLeaf v = true) : V.oneCell' = true := by
  cases h <;> first | rfl | cases hv
def cellsL : Value → List Value
  | .agg cs => cs.toList
  | v => [v]
theorem cells_rel {L : Lay} {v V : Value} (h : VRel L v V) (hj : v ≠ .chan none) : (cellsL v).length = V.cells.size ∧ ∀ (j : Nat) (x X : Value), (cellsL v)[j]? = some x → V.cells[j]? = some X → VRel L x X := by
  have one : ∀ (x X : Value), VRel L x X → [x].length = #[X].size ∧ ∀ (j : Nat) (y Y : Value), [x][j]? = some y → #[X][j]? = some Y → VRel L y Y := by
    intro x X hx
    refine ⟨rfl, fun j y Y h1 h2 => ?_⟩
    cases j with
    | zero => simp at h1 h2; subst h1; subst h2; exact hx
    | succ j => simp at h1
  cases h with
  | agg hs hv => exact agg_list ⟨hs, hv⟩
  | bool b => exact one _ _ (.bool b)
  | int k n => exact one _ _ (.int k n)
  | string s => exact one _ _ (.string s)
  | ptrN => exact one _ _ .ptrN
  | ptr h => exact one _ _ (.ptr h)
  | sliceN => exact one _ _ .sliceN
  | slice h he hn ha room hc => exact one _ _ (.slice h he hn ha room hc)
  | fn f hs hv hs2 hv2 => exact one _ _ (.fn f hs hv hs2 hv2)
  | fnN => exact one _ _ .fnN
  | ifN => exact one _ _ .ifN
  | iface t h => exact one _ _ (.iface t h)
  | tuple hs hv => exact one _ _ (.tuple hs hv)
  | junk V => exact absurd rfl hj
def LRel (L : Lay) (vs : List Value) (A : Array Value) : Prop := vs.length = A.size ∧ ∀ (j : Nat) (v : Value), vs[j]? = some v → ∃ V, A[j]? = some V ∧ VRel L v V
theorem LRel.of {L : Lay} {vs : List Value} {A : Array Value} (h : vs.length = A.size) (h2 : ∀ (j : Nat) (x X : Value), vs[j]? = some x → A[j]? = some X → VRel L x X) : LRel L vs A :=
  ⟨h, fun j v hv => by
    have hlt : j < A.size := by have := (List.getElem?_eq_some_iff.1 hv).1; omega
    exact ⟨A[j], Array.getElem?_eq_getElem hlt, h2 j v _ hv (Array.getElem?_eq_getElem hlt)⟩⟩
theorem LRel.two {L : Lay} {vs : List Value} {A : Array Value} (h : LRel L vs A) (j : Nat) (v V : Value) (hv : vs[j]? = some v) (hV : A[j]? = some V) : VRel L v V := by
  obtain ⟨X, h1, h2⟩ := h.2 j v hv
  obtain rfl := Option.some.inj (h1.symm.trans hV); exact h2
theorem size_lt_of_some {w : World} {b : Nat} {x : Obj} (h : w.heap[b]? = some x) : b < w.heap.size := (Array.getElem?_eq_some_iff.1 h).1
theorem StRel.lam_lt {L : Lay} {F R : Nat → Prop} {w0 w : World} {lam : List Nat} {nt : Nat} {st : St} {T : Array Value} (r : StRel L F R w0 w lam nt st T) {b : Nat} (hb : b ∈ lam) : b < w.heap.size := by
  obtain ⟨i, hi, rfl⟩ := List.getElem_of_mem hb
  have hi' : i < st.S.length := by rw [← r.llen]; exact hi
  obtain ⟨cs, ty, h, _⟩ := r.lblk i lam[i] st.S[i] (List.getElem?_eq_getElem hi) (List.getElem?_eq_getElem hi')
  exact size_lt_of_some h
theorem StRel.skip {L : Lay} {F R : Nat → Prop} {w0 w : World} {lam : List Nat} {nt : Nat} {st : St} {T : Array Value} (r : StRel L F R w0 w lam nt st T) (x : Obj) : StRel L F R w0 (w.alloc x) lam nt st T :=
  ⟨r.rel.skipAlloc x, r.tsz, r.llen, r.lnd, r.lF, r.lrw, fun i b row h1 h2 => let ⟨cs, ty, a, c⟩ := r.lblk i b row h1 h2; ⟨cs, ty, (alloc_old w x (size_lt_of_some a)).trans a, c⟩, r.slots⟩
theorem StRel.local {L : Lay} {F R : Nat → Prop} {w0 w : World} {lam : List Nat} {nt : Nat} {st : St} {T : Array Value} (r : StRel L F R w0 w lam nt st T) {row : List Value} {cs : Array Value} (ty : TypeId) (hr : LRel L row cs) :
    StRel L F R w0 (w.alloc (.cells cs ty)) (lam ++ [w.heap.size]) nt { st with S := st.S ++ [row] } T := by
  have s := r.skip (.cells cs ty)
  have hp : lam <+: lam ++ [w.heap.size] := List.prefix_append _ _
  have hnew : w.heap.size ∉ lam := fun h => Nat.lt_irrefl _ (r.lam_lt h)
  refine ⟨s.rel, r.tsz, by simp [r.llen], ?_, ?_, ?_, ?_, fun i => (r.slots i).mono (fun _ _ h => h) hp⟩
  · rw [List.nodup_append]
    exact ⟨r.lnd, by simp, fun a ha b hb => by simp at hb; subst hb; exact fun e => hnew (e ▸ ha)⟩
  · intro b hb
    rcases List.mem_append.1 hb with h | h
    · exact r.lF b h
    · simp at h; subst h
      intro hF
      have h1 := r.rel.inF _ hF; have h2 := r.rel.keeps.size; omega
  · intro l o q h1 h2 h3 hm
    rcases List.mem_append.1 hm with h | h
    · exact r.lrw l o q h1 h2 h3 h
    · simp at h
      have := (r.rel.obj l o q h1 h2).lt; omega
  · intro i b rw' h1 h2
    by_cases hi : i < lam.length
    · rw [List.getElem?_append_left hi] at h1
      rw [List.getElem?_append_left (by rw [← r.llen]; exact hi)] at h2
      exact s.lblk i b rw' h1 h2
    · rw [List.getElem?_append_right (by omega)] at h1
      rw [List.getElem?_append_right (by rw [← r.llen]; omega)] at h2
      have e1 : i - lam.length = 0 := by
        have := (List.getElem?_eq_some_iff.1 h1).1; simp at this; omega
      have e2 : i - st.S.length = 0 := by rw [← r.llen]; exact e1
      rw [e1] at h1; rw [e2] at h2
      simp at h1 h2; subst h1; subst h2
      exact ⟨cs, ty, alloc_new w _, hr.1.symm, hr.2⟩
theorem StRel.heap {L : Lay} {F R : Nat → Prop} {w0 w : World} {lam : List Nat} {nt : Nat} {st : St} {T : Array Value} (r : StRel L F R w0 w lam nt st T) {o : AObj} {cs : Array Value} (ty : TypeId) (fr : Nat × Nat) (hfr : fr.2 ≤ fr.1 ∨ (o.esz = 1 ∧ cs.size ≤ fr.1)) (hrw : o.rw = true)
    (hlen : ∀ (i : Nat) (row : List Value), o.rows[i]? = some row → row.length = o.esz)
    (hcell : ∀ (i : Nat) (row : List Value), o.rows[i]? = some row → ∀ (j : Nat) (v : Value), row[j]? = some v → ∃ V, cs[i * o.esz + j]? = some V ∧ VRel L v V) :
    StRel (L.set st.h.n ⟨w.heap.size, 0, o.esz, cs.size, o.rw⟩) F R w0 (w.alloc (.cells cs ty fr)) lam nt { st with h := st.h.push o } T ∧ Ext L st.h (L.set st.h.n ⟨w.heap.size, 0, o.esz, cs.size, o.rw⟩) (st.h.push o) := by
  have hle := Lay.le_set (L := L) (r.rel.unl st.h.n (Nat.le_refl _)) ⟨w.heap.size, 0, o.esz, cs.size, o.rw⟩
  have s := r.skip (.cells cs ty fr)
  refine ⟨⟨r.rel.push fr hfr hrw hlen hcell, r.tsz, r.llen, r.lnd, r.lF, ?_, ?_, fun i => (r.slots i).mono hle (List.prefix_refl _)⟩, ⟨Nat.le_succ _, fun l hl => if_neg (by omega)⟩⟩
  · intro l x q h1 h2 h3 hm
    by_cases e : l = st.h.n
    · subst e
      obtain rfl := Option.some.inj ((if_pos rfl).symm.trans h2)
      exact Nat.lt_irrefl _ (r.lam_lt hm)
    · exact r.lrw l x q ((AHeap.get_push_ne e).symm.trans h1) ((if_neg e).symm.trans h2) h3 hm
  · intro i b row h1 h2
    obtain ⟨c, t, a, d, f⟩ := s.lblk i b row h1 h2
    exact ⟨c, t, a, d, fun j v hv => let ⟨V, x, y⟩ := f j v hv; ⟨V, x, y.mono hle⟩⟩
def zeroOf (P : Program) (t : TypeId) : Option Value := (P.info? t).bind (·.zero)
def vcNew (esc : Bool) (row : List Value) (st : St) (K : Value → St → Prop) : Prop :=
  match esc with
  | true => K (.pointer (some ⟨st.h.n, 0, some 0⟩)) { st with h := st.h.push ⟨[row], row.length, true⟩ }
  | false => K (.complex .f32 st.S.length 0) { st with S := st.S ++ [row] }
def vcAlloc (P : Program) (esc : Bool) (t : TypeId) (st : St) (K : Value → St → Prop) : Prop :=
  match zeroOf P t with
  | some z => bs (plain z) (vcNew esc (cellsL z) st K) False
  | none => False
def vcBox (esc : Bool) (v : Value) (st : St) (K : Value → St → Prop) : Prop := bs (okv v) (vcNew esc (cellsL v) st K) False
section
variable {P : Program} {nt : Nat} {o : Oper} {st : St} {K : Value → St → Prop}
theorem new_sound {esc : Bool} {row : List Value} (h : vcNew esc row st K)
    (run : ∀ (L : Lay) (lam : List Nat) (a : Act), Known L lam st.t a.tmps → ∃ (cs : Array Value) (ty : TypeId), LRel L row cs ∧ ∀ w, (execOp a.eval o).run P w = .ok (.value (.pointer (some ⟨w.heap.size, 0, none⟩))) (w.alloc (.cells cs ty))) :
    ∃ v st', K v st' ∧ OpSem P nt o st v st' := by
  unfold vcNew at h
  split at h
  · refine ⟨_, _, h, rfl, fun L F R w0 w lam a r _ next Q hn => ?_⟩
    obtain ⟨cs, ty, hl, hr⟩ := run L lam a r.known
    have key := r.heap (o := ⟨[row], row.length, true⟩) (cs := cs) ty (0, 0) (.inl (Nat.le_refl _)) rfl
      (fun i rw' hi => by cases i <;> simp at hi; subst hi; rfl)
      (fun i rw' hi j v hv => by
        cases i with
        | zero => simp at hi; subst hi; simpa using hl.2 j v hv
        | succ i => simp at hi)
    unfold Oper.wp
    rw [hr w, Oper.upon_value]
    refine hn _ _ _ lam (.inr (.of ?_)) key.2 (List.prefix_refl _) key.1
    have := VRel.ptr (L := L.set st.h.n ⟨w.heap.size, 0, row.length, cs.size, true⟩) (l := st.h.n) (r := 0) (c := 0) (s := ⟨w.heap.size, 0, row.length, cs.size, true⟩) (if_pos rfl)
    simpa using this
  · refine ⟨_, _, h, rfl, fun L F R w0 w lam a r _ next Q hn => ?_⟩
    obtain ⟨cs, ty, hl, hr⟩ := run L lam a r.known
    unfold Oper.wp
    rw [hr w, Oper.upon_value]
    refine hn _ _ L (lam ++ [w.heap.size]) (.inr ⟨w.heap.size, ?_, rfl⟩) (Ext.refl _ _) (List.prefix_append _ _) (r.local ty hl)
    rw [← r.llen, List.getElem?_append_right (Nat.le_refl _), Nat.sub_self]; rfl
theorem run_newRow' (t : TypeId) (cs : Array Value) (w : World) : (newRow t cs).run P w = .ok ⟨w.heap.size, 0, none⟩ (w.alloc (.cells cs t)) := by
  rfl
theorem zero_run {t : TypeId} {z : Value} (h : zeroOf P t = some z) (w : World) : (zeroValue t).run P w = .ok z w := by
  unfold zeroOf at h
  cases hi : P.info? t with
  | none => rw [hi] at h; cases h
  | some i => rw [hi] at h; simp at h; simp [zeroValue, typeInfo, hi, h]
theorem alloc_sound {esc : Bool} {t : TypeId} (ho : o.op = .alloc t) (h : vcAlloc P esc t st K) : ∃ v st', K v st' ∧ OpSem P nt o st v st' := by
  unfold vcAlloc at h
  split at h
  · rename_i z hz
    obtain ⟨hp, h⟩ := bs_false h
    refine new_sound h fun L lam a kn => ⟨z.cells, t, ?_, fun w => ?_⟩
    · have := cells_rel (VRel.plain (L := L) hp) (plain_nj hp); exact .of this.1 this.2
    · unfold execOp; rw [ho]; simp [Instr.alloc, zero_run hz, newVar, run_newRow']
  · exact h.elim
theorem box_sound {esc : Bool} {t : TypeId} {x : Operand} (ho : o.op = .box t x) (h : vcBox esc (ev st.t x) st K) : ∃ v st', K v st' ∧ OpSem P nt o st v st' := by
  obtain ⟨hv, h⟩ := bs_false h
  refine new_sound h fun L lam a kn => ⟨(a.eval x).cells, t, ?_, fun w => ?_⟩
  · have := cells_rel (kn.ok hv) (okv_nj hv); exact .of this.1 this.2
  · unfold execOp; rw [ho]; simp [Instr.box, newVar, run_newRow']
end
inductive LK where
  | b | i (k : IntKind) | s | sl | p | v
def exL : List LK → (List Value → Prop) → Prop
  | [], K => K []
  | .b :: r, K => ∃ x : Bool, exL r fun vs => K (.bool x :: vs)
  | .i k :: r, K => ∃ x : Int, exL r fun vs => K (.int k x :: vs)
  | .s :: r, K => ∃ x : ByteArray, exL r fun vs => K (.string x :: vs)
  | .sl :: r, K => ∃ (a : Option Addr) (n c : Nat), exL r fun vs => K (.slice a n c :: vs)
  | .p :: r, K => ∃ l i c : Nat, exL r fun vs => K (.pointer (some ⟨l, i, some c⟩) :: vs)
  | .v :: r, K => ∃ x : Value, exL r fun vs => K (x :: vs)
theorem exL_mono : ∀ {ks : List LK} {K K' : List Value → Prop}, (∀ vs, K vs → K' vs) → exL ks K → exL ks K'
  | [], _, _, hk, h => hk _ h
  | .b :: _, _, _, hk, ⟨x, h⟩ => ⟨x, exL_mono (fun _ => hk _) h⟩
  | .i _ :: _, _, _, hk, ⟨x, h⟩ => ⟨x, exL_mono (fun _ => hk _) h⟩
  | .s :: _, _, _, hk, ⟨x, h⟩ => ⟨x, exL_mono (fun _ => hk _) h⟩
  | .sl :: _, _, _, hk, ⟨a, n, c, h⟩ => ⟨a, n, c, exL_mono (fun _ => hk _) h⟩
  | .p :: _, _, _, hk, ⟨l, i, c, h⟩ => ⟨l, i, c, exL_mono (fun _ => hk _) h⟩
  | .v :: _, _, _, hk, ⟨x, h⟩ => ⟨x, exL_mono (fun _ => hk _) h⟩
theorem exL_some : ∀ {ks : List LK} {K : List Value → Prop}, exL ks K → ∃ vs, K vs
  | [], _, h => ⟨_, h⟩
  | .b :: _, _, ⟨_, h⟩ => let ⟨_, h⟩ := exL_some h; ⟨_, h⟩
  | .i _ :: _, _, ⟨_, h⟩ => let ⟨_, h⟩ := exL_some h; ⟨_, h⟩
  | .s :: _, _, ⟨_, h⟩ => let ⟨_, h⟩ := exL_some h; ⟨_, h⟩
  | .sl :: _, _, ⟨_, _, _, h⟩ => let ⟨_, h⟩ := exL_some h; ⟨_, h⟩
  | .p :: _, _, ⟨_, _, _, h⟩ => let ⟨_, h⟩ := exL_some h; ⟨_, h⟩
  | .v :: _, _, ⟨_, h⟩ => let ⟨_, h⟩ := exL_some h; ⟨_, h⟩
def leafs (P : Program) : Nat → TypeId → List LK
  | 0, _ => []
  | d + 1, t => match P.underlying t with
    | some .bool => [.b]
    | some (.int k) => [.i k]
    | some .string => [.s]
    | some (.slice _) => [.sl]
    | some (.pointer _) => [.p]
    | some (.struct fs) => fs.toList.flatMap fun f => leafs P d f.type
    | some (.array n e) => (List.replicate n (leafs P d e)).flatten
    | _ => [.v]
def AHeap.ld (h : AHeap) (l r c n : Nat) : Option (List Value) :=
  match h.get l with
  | some o => match o.rows[r]? with
    | some row => bif decide (c + n ≤ row.length) then some ((row.drop c).take n) else none
    | none => none
  | none => none
def AHeap.wr (h : AHeap) (l r c : Nat) (vs : List Value) : Option AHeap :=
  match h.get l with
  | some o => match o.rows[r]? with
    | some row => bif o.rw && decide (c + vs.length ≤ row.length) then some (h.put l (some { o with rows := o.rows.set r (setRange row c vs) })) else none
    | none => none
  | none => none
def cnt (ag : Bool) (z : Nat) : Nat := match ag with | true => z | false => 1
def vcLoad (P : Program) (t : TypeId) (v : Value) (st : St) (K : Value → Prop) : Prop :=
  match aggOf P t, szOf P t with
  | some ag, some z => match v with
    | .complex .f32 i c => match st.S[i]? with
      | some row => bs (decide (c + (cnt ag z) ≤ row.length)) (K (mkV ag ((row.drop c).take (cnt ag z)))) False
      | none => False
    | .pointer (some ⟨l, r, some c⟩) => exL (leafs P 8 t) fun vs => st.h.ld l r c (cnt ag z) = some vs ∧ K (mkV ag vs)
    | _ => False
  | _, _ => False
def vcStore (P : Program) (t : TypeId) (a v : Value) (st : St) (K : Value → St → Prop) : Prop :=
  bs (okv v && (cellsL v).all oneLeaf && decide (szOf P t = some (cellsL v).length) && decide (0 < (cellsL v).length)) (match a with
    | .complex .f32 i c => match st.S[i]? with
      | some row => bs (decide (c + (cellsL v).length ≤ row.length)) (K undef { st with S := st.S.set i (setRange row c (cellsL v)) }) False
      | none => False
    | .pointer (some ⟨l, r, some c⟩) => ∃ h', st.h.wr l r c (cellsL v) = some h' ∧ K undef { st with h := h' }
    | _ => False) False
theorem load_cells {P : Program} {t : TypeId} {ag : Bool} {z : Nat} (ha : aggOf P t = some ag) (hz : szOf P t = some z) {L : Lay} {w : World} {A : Addr} {vs : List Value} (hn : vs.length = cnt ag z)
    (h : ∀ (j : Nat) (v : Value), vs[j]? = some v → ∃ V, w.cell? (A.add j) = some V ∧ VRel L v V) : ∃ V, VRel L (mkV ag vs) V ∧ (loadVar t A).run P w = .ok V w := by
  cases ag with
  | true =>
    have hn : vs.length = z := hn
    have : ∃ ds : List Value, ds.length = z ∧ ∀ (j : Nat) (v : Value), vs[j]? = some v → ∃ V, ds[j]? = some V ∧ w.cell? (A.add j) = some V ∧ VRel L v V := by
      refine ⟨(List.range z).map fun j => (w.cell? (A.add j)).getD undef, by simp, fun j v hv => ?_⟩
      obtain ⟨V, h1, h2⟩ := h j v hv
      have hlt : j < z := by have := (List.getElem?_eq_some_iff.1 hv).1; omega
      exact ⟨V, by simp [hlt, h1], h1, h2⟩
    obtain ⟨ds, hd, hx⟩ := this
    refine ⟨.agg ds.toArray, .agg (by simp; omega) fun i v V h1 h2 => ?_, ?_⟩
    · simp at h1 h2
      obtain ⟨X, a, _, b⟩ := hx i v h1
      obtain rfl := Option.some.inj (a.symm.trans h2); exact b
    · have := run_loadCells_list (P := P) w A ds (fun j v hv => by
        have hlt : j < vs.length := by have := (List.getElem?_eq_some_iff.1 hv).1; omega
        obtain ⟨X, a, b, _⟩ := hx j vs[j] (List.getElem?_eq_getElem hlt)
        obtain rfl := Option.some.inj (a.symm.trans hv); exact b)
      rw [hd] at this
      simp [loadVar, agg_run ha, size_run hz, this]
  | false =>
    match vs, hn with
    | [v], _ =>
      obtain ⟨V, h1, h2⟩ := h 0 v rfl
      refine ⟨V, h2, ?_⟩
      have e : A.add 0 = A := by simp [Addr.add]
      rw [e] at h1
      simp [loadVar, agg_run ha, Go.load, Sem.run, h1]
theorem Rel.ld {L : Lay} {F R : Nat → Prop} {w0 w : World} {h : AHeap} (r : Rel L F R w0 w h) {l i c n : Nat} {vs : List Value} (hl : h.ld l i c n = some vs) {s : Site} (hs : L l = some s) :
    vs.length = n ∧ ∀ (j : Nat) (v : Value), vs[j]? = some v → ∃ V, w.cell? ((⟨s.blk, s.base + i * s.esz + c, none⟩ : Addr).add j) = some V ∧ VRel L v V := by
  unfold AHeap.ld at hl
  split at hl
  case h_2 => cases hl
  rename_i o ho
  split at hl
  case h_2 => cases hl
  rename_i row hrow
  cases hc : decide (c + n ≤ row.length) with
  | false => rw [hc] at hl; cases hl
  | true =>
    rw [hc] at hl
    have hlt := of_decide_eq_true hc
    obtain rfl := Option.some.inj hl
    have ob := r.obj l o s ho hs
    refine ⟨by rw [List.length_take, List.length_drop]; omega, fun j v hv => ?_⟩
    rw [List.getElem?_take] at hv
    split at hv
    · rw [List.getElem?_drop] at hv
      obtain ⟨V, a, b⟩ := ob.cell i row hrow (c + j) v hv
      exact ⟨V, by rw [add_addr, Nat.add_assoc]; exact a, b⟩
    · cases hv
section
variable {P : Program} {nt : Nat} {o : Oper} {st : St}
theorem load_sound {t : TypeId} {x : Operand} {K : Value → Prop} (ho : o.op = .load t x) (h : vcLoad P t (ev st.t x) st K) : ∃ v, K v ∧ OpSem P nt o st v st := by
  unfold vcLoad at h
  split at h
  case h_2 => exact h.elim
  rename_i ag z ha hz
  split at h
  · rename_i i c hx
    split at h
    case h_2 => exact h.elim
    rename_i row hrow
    obtain ⟨hc, h⟩ := bs_false h
    have hc' := of_decide_eq_true hc
    refine ⟨_, h, .reads fun L F R w0 w lam a r => ?_⟩
    obtain ⟨b, hb, e⟩ := (r.known.of hx (by simp [undef])).lptr
    obtain ⟨cs, ty, hh, hsz, hv⟩ := r.lblk i b row hb hrow
    obtain ⟨V, hV, hr⟩ := load_cells ha hz (L := L) (w := w) (A := ⟨b, c, none⟩) (vs := (row.drop c).take (cnt ag z)) (by rw [List.length_take, List.length_drop]; omega) (fun j v hj => by
      rw [List.getElem?_take] at hj
      split at hj
      · rw [List.getElem?_drop] at hj
        obtain ⟨V, a1, a2⟩ := hv (c + j) v hj
        exact ⟨V, by rw [add_addr]; unfold World.cell?; rw [hh]; simpa using a1, a2⟩
      · cases hj)
    exact ⟨V, .inr (.of hV), by unfold execOp; rw [ho]; simp [e, Instr.loadAt, Instr.sureAddr, hr]⟩
  · rename_i l i c hx
    obtain ⟨vs, hl, h⟩ := exL_some h
    refine ⟨_, h, .reads fun L F R w0 w lam a r => ?_⟩
    obtain ⟨s, hs, e⟩ := (r.known.of hx (by simp [undef])).ptr
    have hld := r.rel.ld hl hs
    obtain ⟨V, hV, hr⟩ := load_cells ha hz hld.1 hld.2
    exact ⟨V, .inr (.of hV), by unfold execOp; rw [ho]; simp [e, Instr.loadAt, Instr.sureAddr, hr]⟩
  · exact h.elim
end
end Go.Abs
namespace Go.Abs
theorem run_store_cells (P : Program) (g o : Nat) (t : TypeId) (fr : Nat × Nat) : ∀ (vs : List Value) (i : Nat) (cur : Array Value) (w : World), w.heap[g]? = some (.cells cur t fr) → (fr.2 ≤ fr.1 ∨ cur.size ≤ fr.1) → o + i + vs.length ≤ cur.size → (∀ v ∈ vs, v.oneCell' = true) →
    (storeCells ⟨g, o, none⟩ vs i).run P w = .ok () (w.setRow g (cur.toList.take (o + i) ++ vs ++ cur.toList.drop (o + i + vs.length)).toArray)
  | [], i, cur, w, hg, _, _, _ => by
    simp only [storeCells, List.append_nil, List.length_nil, Nat.add_zero, List.take_append_drop, Array.toArray_toList]
    rw [setRow_self w g cur t fr hg]
    rfl
  | v :: rest, i, cur, w, hg, hfr, hl, h1 => by
    have hi : o + i < cur.size := by simp at hl; omega
    have hadd : (⟨g, o, none⟩ : Addr).add i = ⟨g, o + i, none⟩ := add_addr g o i
    have hcell : w.cell? ⟨g, o + i, none⟩ = some cur[o + i] := by simp [World.cell?, hg, hi]
    have hfro : w.frozen? ⟨g, o + i, none⟩ = false := by
      obtain ⟨lo, hh⟩ := fr
      simp only [World.frozen?, hg, Bool.and_eq_false_iff, decide_eq_false_iff_not]
      dsimp only at hfr
      rcases hfr with h | h <;> omega
    have hst : (store ((⟨g, o, none⟩ : Addr).add i) v).run P w = .ok () (w.setRow g (cur.setIfInBounds (o + i) v)) := by
      rw [hadd, run_store P w _ v _ (h1 v (by simp)), hcell]
      simp [hfro, setCell_eq_setRow w g (o + i) cur t fr v hg]
    have ih := run_store_cells P g o t fr rest (i + 1) (cur.setIfInBounds (o + i) v) (w.setRow g (cur.setIfInBounds (o + i) v)) (setRow_heap w g cur _ t _ hg) (by simpa using hfr) (by simp at hl ⊢; omega) (fun x hx => h1 x (by simp [hx]))
    simp only [storeCells, Sem.run_bind, hst, Result.andThen_ok, ih, setRow_setRow]
    congr 3
    have e := list_seg_step cur.toList (o + i) v rest (by simp at hl ⊢; omega)
    simpa [Array.toList_setIfInBounds, Nat.add_assoc] using e
theorem turns_setRow {w : World} {g : Nat} (c : Array Value) : Turns w (w.setRow g c) g := ⟨rfl, rfl, rfl, by simp [World.setRow], fun i hi => setRow_other w g i c hi⟩
theorem setRange_rel {L : Lay} {row vs : List Value} {A : Array Value} {V : List Value} {c : Nat} (hr : LRel L row A) (hv : LRel L vs V.toArray) (hc : c + vs.length ≤ row.length) :
    LRel L (setRange row c vs) (A.toList.take c ++ V ++ A.toList.drop (c + V.length)).toArray := by
  have hvl : vs.length = V.length := by simpa using hv.1
  have hA : A.toList.length = row.length := by rw [Array.length_toList]; exact hr.1.symm
  have e : (A.toList.take c ++ V ++ A.toList.drop (c + V.length)) = setRange A.toList c V := rfl
  rw [e]
  refine ⟨by rw [setRange_length hc, List.size_toArray, setRange_length (by omega)]; exact hA.symm, fun j v hj => ?_⟩
  rw [List.getElem?_toArray, setRange_get (by omega)]
  rw [setRange_get hc] at hj
  split at hj
  · rename_i h; rw [if_pos h, Array.getElem?_toList]; exact hr.2 j v hj
  · rename_i h; rw [if_neg h]
    split at hj
    · rename_i h2; rw [if_pos (by omega)]
      obtain ⟨X, a, b⟩ := hv.2 _ v hj
      exact ⟨X, by rw [List.getElem?_toArray] at a; exact a, b⟩
    · rename_i h2; rw [if_neg (by omega), Array.getElem?_toList]; exact hr.2 j v hj
theorem StRel.setLocal {L : Lay} {F R : Nat → Prop} {w0 w : World} {lam : List Nat} {nt : Nat} {st : St} {T : Array Value} (r : StRel L F R w0 w lam nt st T) {i b : Nat} (hb : lam[i]? = some b) {cs : Array Value} {ty : TypeId} {row' : List Value}
    (hold : w.heap[b]? = some (.cells cs ty (0, 0))) {cs' : Array Value} (hr : LRel L row' cs') : StRel L F R w0 (w.setRow b cs') lam nt { st with S := st.S.set i row' } T := by
  have t : Turns w (w.setRow b cs') b := turns_setRow cs'
  have hmem : b ∈ lam := List.mem_of_getElem? hb
  have hsep : ∀ l o s, st.h.get l = some o → L l = some s → s.blk ≠ b := by
    intro l o s h1 h2 e
    cases ho : o.rw with
    | true => exact r.lrw l o s h1 h2 ho (e ▸ hmem)
    | false => exact r.lF b hmem (r.rel.inR _ (e ▸ r.rel.ro l o s h1 h2 ho))
  refine ⟨⟨t.keeps r.rel.keeps (r.lF b hmem), r.rel.inF, r.rel.inR, r.rel.fresh, r.rel.unl, fun l o s h1 h2 => (r.rel.obj l o s h1 h2).world (by rw [t.size]; exact Nat.le_refl _) (t.block _ (hsep l o s h1 h2)), r.rel.free, r.rel.ro, r.rel.apart⟩, r.tsz, by simpa using r.llen, r.lnd, r.lF, r.lrw, ?_, r.slots⟩
  intro j b' row h1 h2
  by_cases e : j = i
  · subst e
    obtain rfl := Option.some.inj (hb.symm.trans h1)
    have : j < st.S.length := by rw [← r.llen]; exact (List.getElem?_eq_some_iff.1 hb).1
    rw [List.getElem?_set_self this] at h2
    obtain rfl := Option.some.inj h2
    exact ⟨cs', ty, setRow_heap w _ cs cs' ty (0, 0) hold, hr.1.symm, hr.2⟩
  · rw [List.getElem?_set_ne (Ne.symm e)] at h2
    obtain ⟨c, q, a, d, f⟩ := r.lblk j b' row h1 h2
    have hne : b' ≠ b := by
      intro eb; subst eb
      obtain ⟨hj, hj'⟩ := List.getElem?_eq_some_iff.1 h1
      obtain ⟨hi, hi'⟩ := List.getElem?_eq_some_iff.1 hb
      exact e ((List.getElem_inj r.lnd).1 (hj'.trans hi'.symm))
    exact ⟨c, q, (t.block _ hne).trans a, d, f⟩
theorem StRel.setObj {L : Lay} {F R : Nat → Prop} {w0 w w' : World} {lam : List Nat} {nt : Nat} {st : St} {T : Array Value} (r : StRel L F R w0 w lam nt st T) {l : Nat} {o o' : AObj} {s : Site} (hl : st.h.get l = some o) (hs : L l = some s)
    (hrw : o.rw = true) (hrw' : o'.rw = true) (t : Turns w w' s.blk) (ho : ObjRel L w' s o') : StRel L F R w0 w' lam nt { st with h := st.h.put l (some o') } T := by
  have hb : s.blk ∉ lam := r.lrw l o s hl hs hrw
  refine ⟨r.rel.rewrite hl hs hrw hrw' t ho, r.tsz, r.llen, r.lnd, r.lF, ?_, fun i b row h1 h2 => ?_, r.slots⟩
  · intro x y q h1 h2 h3
    by_cases e : x = l
    · subst e; obtain rfl := Option.some.inj (hs.symm.trans h2); exact hb
    · exact r.lrw x y q ((AHeap.get_put_ne e).symm.trans h1) h2 h3
  · obtain ⟨c, q, a, d, f⟩ := r.lblk i b row h1 h2
    exact ⟨c, q, (t.block _ (fun e => hb (e ▸ List.mem_of_getElem? h1))).trans a, d, f⟩
section
variable {P : Program} {nt : Nat} {o : Oper} {st : St}
theorem store_sound {t : TypeId} {x y : Operand} {K : Value → St → Prop} (ho : o.op = .store t x y) (h : vcStore P t (ev st.t x) (ev st.t y) st K) : ∃ v st', K v st' ∧ OpSem P nt o st v st' := by
  obtain ⟨hc, h⟩ := bs_false h
  simp only [Bool.and_eq_true, decide_eq_true_eq, List.all_eq_true] at hc
  obtain ⟨⟨⟨hv, hone⟩, hsz⟩, hpos⟩ := hc
  have exec : ∀ (a : Act) (w w' : World) (A : Addr), a.eval x = .pointer (some A) → (a.eval y).cells.size = (cellsL (ev st.t y)).length → (storeCells A (a.eval y).cells.toList).run P w = .ok () w' → (execOp a.eval o).run P w = .ok .skip w' := by
    intro a w w' A e hs hr
    unfold execOp; rw [ho]
    simp [e, Instr.storeAt, Instr.sureAddr, storeVar, size_run hsz, hs, hr]
  have one : ∀ (L : Lay) (a : Act), VRel L (ev st.t y) (a.eval y) → LRel L (cellsL (ev st.t y)) (a.eval y).cells ∧ ∀ V ∈ (a.eval y).cells.toList, V.oneCell' = true := by
    intro L a r
    have c := cells_rel r (okv_nj hv)
    refine ⟨.of c.1 c.2, fun V hV => ?_⟩
    obtain ⟨j, hj, e⟩ := List.getElem_of_mem hV
    rw [Array.length_toList] at hj
    have hj' : j < (cellsL (ev st.t y)).length := by rw [c.1]; exact hj
    have := c.2 j _ V (List.getElem?_eq_getElem hj') (by rw [Array.getElem?_eq_getElem hj]; rw [Array.getElem_toList] at e; exact congrArg some e)
    exact oneLeaf_rel this (hone _ (List.getElem_mem hj'))
  split at h
  · rename_i i c hx
    split at h
    case h_2 => exact h.elim
    rename_i row hrow
    obtain ⟨hc, h⟩ := bs_false h
    have hc := of_decide_eq_true hc
    refine ⟨_, _, h, rfl, fun L F R w0 w lam a r _ next Q hn => ?_⟩
    obtain ⟨b, hb, e⟩ := (r.known.of hx (by simp [undef])).lptr
    obtain ⟨hl, h1⟩ := one L a (r.known.ok hv)
    obtain ⟨cs, ty, hh, hcs, hcv⟩ := r.lblk i b row hb hrow
    have run := run_store_cells P b c ty (0, 0) (a.eval y).cells.toList 0 cs w hh (.inl (Nat.le_refl _)) (by rw [Array.length_toList, ← hl.1, hcs]; omega) h1
    rw [Nat.add_zero] at run
    have rel : LRel L (setRange row c (cellsL (ev st.t y))) (cs.toList.take c ++ (a.eval y).cells.toList ++ cs.toList.drop (c + (a.eval y).cells.toList.length)).toArray :=
      setRange_rel ⟨hcs.symm, hcv⟩ (by simpa using hl) hc
    unfold Oper.wp
    rw [exec a w _ ⟨b, c, none⟩ e hl.1.symm run, Oper.upon_skip]
    refine hn undef _ L lam (.inl rfl) (Ext.refl _ _) (List.prefix_refl _) (r.setLocal hb hh rel)
  · rename_i l i c hx
    obtain ⟨h', hw, h⟩ := h
    refine ⟨_, _, h, rfl, fun L F R w0 w lam a r _ next Q hn => ?_⟩
    obtain ⟨s, hs, e⟩ := (r.known.of hx (by simp [undef])).ptr
    obtain ⟨hl, h1⟩ := one L a (r.known.ok hv)
    unfold AHeap.wr at hw
    split at hw
    case h_2 => cases hw
    rename_i ob hob
    split at hw
    case h_2 => cases hw
    rename_i row hrow
    cases hq : (ob.rw && decide (c + (cellsL (ev st.t y)).length ≤ row.length)) with
    | false => rw [hq] at hw; cases hw
    | true =>
    rw [hq] at hw
    simp only [Bool.and_eq_true, decide_eq_true_eq] at hq
    obtain ⟨hrw, hc⟩ := hq
    obtain rfl := Option.some.inj hw
    have or := r.rel.obj l ob s hob hs
    obtain ⟨cs, ty, fr, hh, hcs, hfr⟩ := or.own hrw
    -- all cells of the row lie in the block
    have hrowlen := or.len i row hrow
    have inb : ∀ j, j < row.length → s.base + i * s.esz + j < cs.size ∧ ∃ V, cs[s.base + i * s.esz + j]? = some V ∧ ∃ v, row[j]? = some v ∧ VRel L v V := by
      intro j hj
      obtain ⟨V, a1, a2⟩ := or.cell i row hrow j row[j] (List.getElem?_eq_getElem hj)
      unfold World.cell? at a1
      rw [hh] at a1
      simp only [Option.isSome_none, Bool.false_eq_true, if_false] at a1
      exact ⟨(Array.getElem?_eq_some_iff.1 a1).1, V, a1, row[j], List.getElem?_eq_getElem hj, a2⟩
    have hfit : s.base + i * s.esz + c + (cellsL (ev st.t y)).length ≤ cs.size := by
      have := (inb (c + (cellsL (ev st.t y)).length - 1) (by omega)).1; omega
    have run := run_store_cells P s.blk (s.base + i * s.esz + c) ty fr (a.eval y).cells.toList 0 cs w hh (by rw [hcs]; rw [← hcs]; exact hfr.imp id And.right) (by rw [Array.length_toList, ← hl.1]; omega) h1
    rw [Nat.add_zero] at run
    have hVl : (a.eval y).cells.toList.length = (cellsL (ev st.t y)).length := by rw [Array.length_toList]; exact hl.1.symm
    have hcsl : cs.toList.length = cs.size := Array.length_toList
    have e2 : (cs.toList.take (s.base + i * s.esz + c) ++ (a.eval y).cells.toList ++ cs.toList.drop (s.base + i * s.esz + c + (a.eval y).cells.toList.length)) = setRange cs.toList (s.base + i * s.esz + c) (a.eval y).cells.toList := rfl
    rw [e2] at run
    have hget : ∀ k, (setRange cs.toList (s.base + i * s.esz + c) (a.eval y).cells.toList).toArray[k]? = if k < s.base + i * s.esz + c then cs[k]? else if k < s.base + i * s.esz + c + (cellsL (ev st.t y)).length then (a.eval y).cells[k - (s.base + i * s.esz + c)]? else cs[k]? := by
      intro k
      rw [List.getElem?_toArray, setRange_get (by omega), hVl]
      simp only [Array.getElem?_toList]
    unfold Oper.wp
    rw [exec a w _ _ e hl.1.symm run, Oper.upon_skip]
    have T : Turns w (w.setRow s.blk (setRange cs.toList (s.base + i * s.esz + c) (a.eval y).cells.toList).toArray) s.blk := turns_setRow _
    refine hn undef _ L lam (.inl rfl) (⟨Nat.le_refl _, fun _ _ => rfl⟩) (List.prefix_refl _) (r.setObj hob hs hrw hrw T ?_)
    have hesz : s.esz = row.length := by rw [or.esz, hrowlen]
    have hheap := setRow_heap w s.blk cs (setRange cs.toList (s.base + i * s.esz + c) (a.eval y).cells.toList).toArray ty fr hh
    have hlen' : (setRange cs.toList (s.base + i * s.esz + c) (a.eval y).cells.toList).length = cs.size := by rw [setRange_length (by omega), hcsl]
    refine ⟨or.esz, or.rw, by rw [T.size]; exact or.lt, ?_, ?_, fun _ => ⟨_, ty, fr, hheap, by rw [List.size_toArray, hlen', hcs], by rw [List.size_toArray, hlen']; rw [hcs] ; rw [← hcs]; exact hfr⟩⟩
    · intro r' row' hr'
      by_cases er : r' = i
      · subst er
        have : r' < ob.rows.length := (List.getElem?_eq_some_iff.1 hrow).1
        rw [List.getElem?_set_self this] at hr'
        obtain rfl := Option.some.inj hr'
        rw [setRange_length hc]; exact hrowlen
      · rw [List.getElem?_set_ne (Ne.symm er)] at hr'
        exact or.len r' row' hr'
    · intro r' row' hr' j v hv'
      have cell : ∀ k, (w.setRow s.blk (setRange cs.toList (s.base + i * s.esz + c) (a.eval y).cells.toList).toArray).cell? ⟨s.blk, k, none⟩ = (setRange cs.toList (s.base + i * s.esz + c) (a.eval y).cells.toList).toArray[k]? := by
        intro k; unfold World.cell?; rw [hheap]; simp
      have oldc : ∀ k, w.cell? ⟨s.blk, k, none⟩ = cs[k]? := by
        intro k; unfold World.cell?; rw [hh]; simp
      rw [cell, hget]
      by_cases er : r' = i
      · subst er
        have : r' < ob.rows.length := (List.getElem?_eq_some_iff.1 hrow).1
        rw [List.getElem?_set_self this] at hr'
        obtain rfl := Option.some.inj hr'
        rw [setRange_get hc] at hv'
        by_cases j1 : j < c
        · rw [if_pos j1] at hv'
          rw [if_pos (by omega), ← oldc]
          exact or.cell r' row hrow j v hv'
        · rw [if_neg j1] at hv'
          by_cases j2 : j < c + (cellsL (ev st.t y)).length
          · rw [if_pos j2] at hv'
            rw [if_neg (by omega), if_pos (by omega), show s.base + r' * s.esz + j - (s.base + r' * s.esz + c) = j - c from by omega]
            exact hl.2 _ v hv'
          · rw [if_neg j2] at hv'
            rw [if_neg (by omega), if_neg (by omega), ← oldc]
            exact or.cell r' row hrow j v hv'
      · rw [List.getElem?_set_ne (Ne.symm er)] at hr'
        have hj : j < s.esz := by
          have h1 := (List.getElem?_eq_some_iff.1 hv').1
          have h2 := or.len r' row' hr'
          have h3 := or.esz; omega
        have hold := or.cell r' row' hr' j v hv'
        rw [oldc] at hold
        rcases Nat.lt_or_gt_of_ne er with h1 | h1
        · have h2 : (r' + 1) * s.esz ≤ i * s.esz := Nat.mul_le_mul_right _ h1
          rw [Nat.succ_mul] at h2
          rw [if_pos (by omega)]; exact hold
        · have h2 : (i + 1) * s.esz ≤ r' * s.esz := Nat.mul_le_mul_right _ h1
          rw [Nat.succ_mul] at h2
          rw [if_neg (by omega), if_neg (by omega)]; exact hold
  · exact h.elim
end
end Go.Abs
namespace Go.Abs
def placeOf (P : Program) (t : TypeId) (i : Nat) : Option (Nat × Nat) :=
  match P.underlying t with
  | some (.struct fs) => match fs[i]? with
    | some fd => (szOf P fd.type).map fun z => (fd.offset, z)
    | none => none
  | some (.array _ e) => (szOf P e).map fun z => (i * z, z)
  | _ => none
def fillL (place : Nat → Option (Nat × Nat)) (cells : List Value) : List (Nat × Value) → Option (List Value)
  | [] => some cells
  | (i, v) :: rest =>
    match place i with
    | none => none
    | some (off, z) => bif okv v && decide ((cellsL v).length = z) && decide (off + z ≤ cells.length) then fillL place (setRange cells off (cellsL v)) rest else none
def placesOk (P : Program) (t : TypeId) : Bool :=
  match P.underlying t with
  | some (.struct fs) => fs.toList.all fun fd => (szOf P fd.type).isSome
  | some (.array _ e) => (szOf P e).isSome
  | _ => false
def vcBuild (P : Program) (t : TypeId) (parts : List (Nat × Value)) (K : Value → Prop) : Prop :=
  match zeroOf P t with
  | some z => bs (plain z && placesOk P t) (match fillL (placeOf P t) (cellsL z) parts with
    | some cells => K (.agg cells.toArray)
    | none => False) False
  | none => False
theorem foldl_set {A : Array Value} (off : Nat) : ∀ (l : List Value) (k : Nat) (j : Nat), (((l.zipIdx k).foldl (fun cs (x : Value × Nat) => cs.setIfInBounds (off + x.2) x.1) A)[j]?) = if off + k ≤ j ∧ j < off + k + l.length ∧ j < A.size then l[j - (off + k)]? else A[j]? := by
  intro l
  induction l generalizing A with
  | nil => intro k j; rw [if_neg (by simp only [List.length_nil]; omega)]; rfl
  | cons x l ih =>
    intro k j
    rw [List.zipIdx_cons, List.foldl_cons, ih]
    simp only [Array.size_setIfInBounds, List.length_cons]
    by_cases h1 : off + (k + 1) ≤ j ∧ j < off + (k + 1) + l.length ∧ j < A.size
    · rw [if_pos h1, if_pos (by omega), show j - (off + k) = (j - (off + (k + 1))) + 1 from by omega, List.getElem?_cons_succ]
    · rw [if_neg h1]
      by_cases h2 : j = off + k
      · subst h2
        by_cases h3 : off + k < A.size
        · rw [if_pos (by omega), Array.getElem?_setIfInBounds_self, if_pos h3, Nat.sub_self, List.getElem?_cons_zero]
        · rw [if_neg (by omega), Array.getElem?_setIfInBounds_self, if_neg h3, Array.getElem?_eq_none (by omega)]
      · rw [Array.getElem?_setIfInBounds_ne (by omega), if_neg (by omega)]
theorem foldl_set_size {A : Array Value} (off : Nat) : ∀ (l : List (Value × Nat)), (l.foldl (fun cs (x : Value × Nat) => cs.setIfInBounds (off + x.2) x.1) A).size = A.size := by
  intro l
  induction l generalizing A with
  | nil => rfl
  | cons x l ih => rw [List.foldl_cons, ih, Array.size_setIfInBounds]
theorem fill_rel {L : Lay} {place : Nat → Option (Nat × Nat)} : ∀ (parts : List (Nat × Value)) (PARTS : List (Nat × Value)) (cells : List Value) (A : Array Value) (out : List Value), fillL place cells parts = some out → LRel L cells A →
    parts.length = PARTS.length → (∀ (j : Nat) (x X : Nat × Value), parts[j]? = some x → PARTS[j]? = some X → x.1 = X.1 ∧ (okv x.2 = true → VRel L x.2 X.2)) → ∃ B, Instr.fill place A PARTS = some B ∧ LRel L out B
  | [], PARTS, cells, A, out, h, hr, hl, _ => by
    cases PARTS with
    | nil => exact ⟨A, rfl, by simp only [fillL, Option.some.injEq] at h; exact h ▸ hr⟩
    | cons _ _ => simp at hl
  | (i, v) :: rest, PARTS, cells, A, out, h, hr, hl, hp => by
    cases PARTS with
    | nil => simp at hl
    | cons X RE =>
    obtain ⟨I, V⟩ := X
    obtain ⟨e1, hV⟩ := hp 0 (i, v) (I, V) rfl rfl
    dsimp only at e1 hV; subst e1
    unfold fillL at h
    split at h
    · cases h
    rename_i off z hpl
    cases hq : (okv v && decide ((cellsL v).length = z) && decide (off + z ≤ cells.length)) with
    | false => rw [hq] at h; cases h
    | true =>
    rw [hq] at h
    simp only [Bool.and_eq_true, decide_eq_true_eq] at hq
    obtain ⟨⟨hok, hz⟩, hoff⟩ := hq
    have hc := cells_rel (hV hok) (okv_nj hok)
    have hsz : V.cells.size = z := by rw [← hc.1]; exact hz
    unfold Instr.fill
    rw [hpl]
    simp only [hsz]
    rw [if_neg (by have := hr.1; simp; omega)]
    refine fill_rel rest RE _ _ out h ?_ (by simpa using hl) (fun j x X hx hX => hp (j + 1) x X hx hX)
    have e : ∀ j, (V.cells.zipIdx.foldl (fun cs (x : Value × Nat) => cs.setIfInBounds (off + x.2) x.1) A)[j]? = if off ≤ j ∧ j < off + V.cells.size ∧ j < A.size then V.cells[j - off]? else A[j]? := by
      intro j
      rw [← Array.foldl_toList, Array.toList_zipIdx, foldl_set off V.cells.toList 0 j]
      simp only [Nat.add_zero, Array.length_toList, Array.getElem?_toList]
    refine ⟨?_, fun j x hx => ?_⟩
    · rw [setRange_length (by omega), ← Array.foldl_toList]; rw [foldl_set_size]; exact hr.1
    · rw [e]
      rw [setRange_get (by omega)] at hx
      have := hr.1
      split at hx
      · rw [if_neg (by omega)]; exact hr.2 j x hx
      · split at hx
        · rw [if_pos (by omega)]
          have hlt : j - off < V.cells.size := by omega
          exact ⟨V.cells[j - off], Array.getElem?_eq_getElem hlt, hc.2 _ x _ hx (Array.getElem?_eq_getElem hlt)⟩
        · rw [if_neg (by omega)]; exact hr.2 j x hx
theorem parts_rel {L : Lay} {lam : List Nat} {t : Nat → Value} {a : Act} (kn : Known L lam t a.tmps) (ps : Array (Nat × Operand)) :
    (ps.map fun x => (x.1, ev t x.2)).toList.length = (ps.map fun (x : Nat × Operand) => (x.1, a.eval x.2)).toList.length ∧ ∀ (j : Nat) (x X : Nat × Value), (ps.map fun x => (x.1, ev t x.2)).toList[j]? = some x → (ps.map fun (x : Nat × Operand) => (x.1, a.eval x.2)).toList[j]? = some X → x.1 = X.1 ∧ (okv x.2 = true → VRel L x.2 X.2) := by
  refine ⟨by simp, fun j x X h1 h2 => ?_⟩
  simp only [Array.toList_map, List.getElem?_map, Option.map_eq_some_iff] at h1 h2
  obtain ⟨y, hy, rfl⟩ := h1
  obtain ⟨z, hz, rfl⟩ := h2
  obtain rfl := Option.some.inj (hy.symm.trans hz)
  exact ⟨rfl, fun h => kn.ok h⟩
section
variable {P : Program} {nt : Nat} {o : Oper} {st : St}
theorem run_places {w : World} : ∀ (fs : List Field), (fs.all fun fd => (szOf P fd.type).isSome) = true → (fs.mapM (m := Sem) fun f => do pure (f.offset, ← sizeOf f.type)).run P w = .ok (fs.map fun f => (f.offset, (szOf P f.type).getD 0)) w
  | [], _ => by simp
  | f :: fs, h => by
    simp only [List.all_cons, Bool.and_eq_true] at h
    obtain ⟨z, hz⟩ := Option.isSome_iff_exists.1 h.1
    have ih := run_places (w := w) fs h.2
    simp [List.mapM_cons, size_run hz, ih, hz] at ih ⊢
    simp [ih]
theorem build_sound {t : TypeId} {ps : Array (Nat × Operand)} {K : Value → Prop} (ho : o.op = .build t ps) (h : vcBuild P t (ps.map fun x => (x.1, ev st.t x.2)).toList K) : ∃ v, K v ∧ PSem P o st.t v := by
  unfold vcBuild at h
  split at h
  case h_2 => exact h.elim
  rename_i z hz
  obtain ⟨hc, h⟩ := bs_false h
  simp only [Bool.and_eq_true] at hc
  obtain ⟨hp, hpl⟩ := hc
  split at h
  case h_2 => exact h.elim
  rename_i cells hf
  refine ⟨_, h, .pure fun L lam a kn => ?_⟩
  have hzc := cells_rel (VRel.plain (L := L) hp) (plain_nj hp)
  obtain ⟨B, hB, hR⟩ := fill_rel (L := L) _ _ _ _ cells hf (.of hzc.1 hzc.2) (parts_rel kn ps).1 (parts_rel kn ps).2
  refine ⟨.agg B, .inr (.of (.agg (by rw [List.size_toArray]; exact hR.1) fun i v V h1 h2 => hR.two i v V (by rw [List.getElem?_toArray] at h1; exact h1) h2)), fun w => ?_⟩
  unfold placesOk at hpl
  split at hpl
  · rename_i fs hu
    have hm := run_places (P := P) (w := w) fs.toList hpl
    have hplace : (fun i => (fs.map fun f => (f.offset, (szOf P f.type).getD 0))[i]?) = placeOf P t := by
      funext i
      simp only [placeOf, hu, Array.getElem?_map]
      cases hfi : fs[i]? with
      | none => rfl
      | some fd =>
        have := List.all_eq_true.1 hpl fd (Array.mem_toList_iff.2 (Array.mem_of_getElem? hfi))
        obtain ⟨y, hy⟩ := Option.isSome_iff_exists.1 this
        simp [hy]
    have hm' : (fs.mapM (m := Sem) fun f => do pure (f.offset, ← sizeOf f.type)).run P w = .ok (fs.map fun f => (f.offset, (szOf P f.type).getD 0)) w := by
      rw [Array.mapM_eq_mapM_toList]
      simp only [Sem.run_bind, hm, Result.andThen_ok, map_eq_pure_bind, Sem.run_pure]
      congr 1
      rw [← Array.toList_map, Array.toArray_toList]
    rw [← hplace] at hB
    unfold execOp; rw [ho]
    simp only [Instr.build, Sem.run_bind, zero_run hz, run_underlying hu, Result.andThen_ok, hm']
    rw [hB]
    simp
  · rename_i n e hu
    have hplace : placeOf P t = fun i => (szOf P e).map fun z => (i * z, z) := by funext i; simp [placeOf, hu]
    obtain ⟨y, hy⟩ := Option.isSome_iff_exists.1 hpl
    rw [hplace, hy] at hB
    unfold execOp; rw [ho]
    simp only [Instr.build, Sem.run_bind, zero_run hz, run_underlying hu, Result.andThen_ok, size_run hy]
    simp only [Option.map_some] at hB
    rw [hB]
    simp
  · cases hpl
theorem bound_run {v : Value} {k : IntKind} {n : Int} {y : Nat} (hv : v = .int k n) (h0 : 0 ≤ n) (hy : n ≤ y) (c : BoundsCode) (w : World) : (Instr.sliceBound v y c).run P w = .ok n.toNat w := by
  subst hv; simp [Instr.sliceBound, asIntOf, h0, hy]
theorem bounds_run {isS : Bool} {len cap : Nat} {lo hi mx : Option Value} {l h m : Int} (hlo : (lo = none ∧ l = 0) ∨ ∃ k, lo = some (.int k l)) (hhi : (hi = none ∧ h = len ∧ mx = none) ∨ ∃ k, hi = some (.int k h))
    (hmx : (mx = none ∧ m = cap) ∨ ∃ k, mx = some (.int k m)) (h0 : 0 ≤ l) (h1 : l ≤ h) (h2 : h ≤ m) (h3 : m ≤ cap) (w : World) : (Instr.sliceBounds isS len cap lo hi mx).run P w = .ok (l.toNat, h.toNat, m.toNat) w := by
  have e1 : ∀ (c : BoundsCode) (k : IntKind), (Instr.sliceBound (.int k l) h.toNat c).run P w = .ok l.toNat w := fun c k => bound_run rfl h0 (by omega) c w
  have e2 : ∀ (c : BoundsCode) (k : IntKind), (Instr.sliceBound (.int k h) m.toNat c).run P w = .ok h.toNat w := fun c k => bound_run rfl (by omega) (by omega) c w
  have e3 : ∀ (c : BoundsCode) (k : IntKind), (Instr.sliceBound (.int k m) cap c).run P w = .ok m.toNat w := fun c k => bound_run rfl (by omega) (by omega) c w
  unfold Instr.sliceBounds
  rcases hmx with ⟨rfl, rfl⟩ | ⟨k3, rfl⟩
  · have e2' : ∀ (c : BoundsCode) (k : IntKind), (Instr.sliceBound (.int k h) cap c).run P w = .ok h.toNat w := e2
    rcases hhi with ⟨rfl, rfl, _⟩ | ⟨k2, rfl⟩
    · have e1' : ∀ (c : BoundsCode) (k : IntKind), (Instr.sliceBound (.int k l) len c).run P w = .ok l.toNat w := e1
      rcases hlo with ⟨rfl, rfl⟩ | ⟨k1, rfl⟩ <;> simp [e1']
    · rcases hlo with ⟨rfl, rfl⟩ | ⟨k1, rfl⟩ <;> simp [e1, e2']
  · rcases hhi with ⟨_, _, hh⟩ | ⟨k2, rfl⟩
    · cases hh
    · rcases hlo with ⟨rfl, rfl⟩ | ⟨k1, rfl⟩ <;> simp [e1, e2, e3]
theorem vcBound_cases {t : Nat → Value} {x : Option Operand} {d : Int} {Q : Int → Prop} (h : vcBound (x.map (ev t)) d Q) : (x = none ∧ Q d) ∨ ∃ y k n, x = some y ∧ ev t y = .int k n ∧ Q n := by
  unfold vcBound at h
  cases x with
  | none => exact .inl ⟨rfl, h⟩
  | some y =>
    simp only [Option.map_some] at h
    right
    cases hy : ev t y <;> rw [hy] at h <;> first | exact h.elim | skip
    exact ⟨y, _, _, rfl, hy, h⟩
theorem slice_sound {t : TypeId} {x : Operand} {lo hi mx : Option Operand} {K : Value → Prop} (ho : o.op = .slice t x lo hi mx) (h : vcSlice P t (ev st.t x) (lo.map (ev st.t)) (hi.map (ev st.t)) (mx.map (ev st.t)) K) : ∃ v, K v ∧ PSem P o st.t v := by
  have exec : ∀ (a : Act) (w : World) (d : TypeDesc) (V : Value), P.underlying t = some d → (∀ n e, d ≠ .array n e) → (Instr.slice t (a.eval x) (lo.map a.eval) (hi.map a.eval) (mx.map a.eval)).run P w = .ok V w → (execOp a.eval o).run P w = .ok (.value V) w := by
    intro a w d V hd hna hr
    unfold execOp; rw [ho]
    simp only [Instr.sliceAt, Sem.run_bind, run_underlying hd, Result.andThen_ok]
    cases d <;> first | exact absurd rfl (hna _ _) | simp [hr]
  have los : ∀ (L : Lay) (lam : List Nat) (a : Act), Known L lam st.t a.tmps → ∀ (l : Int), ((lo = none ∧ l = 0) ∨ ∃ y k, lo = some y ∧ ev st.t y = .int k l) → (lo.map a.eval = none ∧ l = 0) ∨ ∃ k, lo.map a.eval = some (.int k l) := by
    intro L lam a kn l hl
    rcases hl with ⟨rfl, rfl⟩ | ⟨y, k, rfl, hy⟩
    · exact .inl ⟨rfl, rfl⟩
    · exact .inr ⟨k, by simp [kn.int hy]⟩
  have loc : ∀ {Q : Int → Prop}, vcBound (lo.map (ev st.t)) 0 Q → ∃ l, ((lo = none ∧ l = 0) ∨ ∃ y k, lo = some y ∧ ev st.t y = .int k l) ∧ Q l := by
    intro Q hq
    rcases vcBound_cases hq with ⟨e, q⟩ | ⟨y, k, n, e1, e2, q⟩
    · exact ⟨0, .inl ⟨e, rfl⟩, q⟩
    · exact ⟨n, .inr ⟨y, k, e1, e2⟩, q⟩
  have hic : ∀ {Q : Int → Prop} {d : Int}, vcBound (hi.map (ev st.t)) d Q → ∃ l, ((hi = none ∧ l = d) ∨ ∃ y k, hi = some y ∧ ev st.t y = .int k l) ∧ Q l := by
    intro Q d hq
    rcases vcBound_cases hq with ⟨e, q⟩ | ⟨y, k, n, e1, e2, q⟩
    · exact ⟨d, .inl ⟨e, rfl⟩, q⟩
    · exact ⟨n, .inr ⟨y, k, e1, e2⟩, q⟩
  unfold vcSlice at h
  split at h
  · rename_i hu
    split at h
    case h_2 => exact h.elim
    rename_i s hx hmx
    have hmx' : mx = none := by cases mx <;> simp at hmx ⊢
    obtain ⟨l, hl, h⟩ := loc h
    obtain ⟨hh, hhi, h0, h1, h2, h⟩ := hic h
    refine ⟨_, h, .pure fun L lam a kn => ⟨_, .inr (.of (.string _)), fun w => exec a w _ _ hu (by simp) ?_⟩⟩
    have hb : (Instr.sliceBounds false s.size s.size (lo.map a.eval) (hi.map a.eval) none).run P w = .ok (l.toNat, hh.toNat, s.size) w := by
      have := bounds_run (P := P) (isS := false) (len := s.size) (cap := s.size) (lo := lo.map a.eval) (hi := hi.map a.eval) (mx := none) (l := l) (h := hh) (m := s.size) (los L lam a kn l hl) (by
        rcases hhi with ⟨rfl, rfl⟩ | ⟨y, k, rfl, hy⟩
        · exact .inl ⟨rfl, rfl, rfl⟩
        · exact .inr ⟨k, by simp [kn.int hy]⟩) (.inl ⟨rfl, rfl⟩) h0 h1 h2 (Int.le_refl _) w
      simpa using this
    subst hmx'
    simp [Instr.slice, run_underlying hu, kn.string hx, hb]
  · rename_i e hu
    split at h
    case h_2 => exact h.elim
    rename_i ad n c z hx hz
    -- the slice in the model
    have key : ∀ (L : Lay) (lam : List Nat) (a : Act), Known L lam st.t a.tmps → (ad = none ∧ n = 0 ∧ c = 0 ∧ a.eval x = .slice none 0 0) ∨ ∃ b r s A C, ad = some ⟨b, r, some s.esz⟩ ∧ L b = some s ∧ a.eval x = .slice (some A) n C ∧ n ≤ C ∧ (C = 0 ∨ A = ⟨s.blk, s.base + r * s.esz, none⟩) ∧ (s.rw = true → s.base + (r + C) * s.esz ≤ s.bsz) ∧ (c = 0 ∨ c = C + 1) := by
      intro L lam a kn
      have rl : VRel L _ _ := kn.of hx (by simp [undef])
      generalize a.eval x = X at rl
      cases rl with
      | sliceN => exact .inl ⟨rfl, rfl, rfl, rfl⟩
      | slice hL he hn ha room hc => subst he; exact .inr ⟨_, _, _, _, _, rfl, hL, rfl, hn, ha, room, hc⟩
    split at h
    · rename_i hmx
      have hmx' : mx = none := by cases mx <;> simp at hmx ⊢
      obtain ⟨l, hl, h⟩ := loc h
      obtain ⟨hh, hhi, h0, h1, h2, hsp, h⟩ := hic h
      refine ⟨_, h, .pure fun L lam a kn => ?_⟩
      have hb : ∀ (C : Nat), n ≤ C → (c = 0 ∨ c = C + 1) → ∀ w, (Instr.sliceBounds true n C (lo.map a.eval) (hi.map a.eval) none).run P w = .ok (l.toNat, hh.toNat, C) w := by
        intro C hC hC2 w
        have := bounds_run (P := P) (isS := true) (len := n) (cap := C) (lo := lo.map a.eval) (hi := hi.map a.eval) (mx := none) (l := l) (h := hh) (m := C) (los L lam a kn l hl) (by
          rcases hhi with ⟨rfl, rfl⟩ | ⟨y, k, rfl, hy⟩
          · exact .inl ⟨rfl, rfl, rfl⟩
          · exact .inr ⟨k, by simp [kn.int hy]⟩) (.inl ⟨rfl, rfl⟩) h0 h1 (by omega) (Int.le_refl _) w
        simpa using this
      subst hmx'
      rcases key L lam a kn with ⟨rfl, rfl, rfl, e1⟩ | ⟨b, r, s, A, C, rfl, hs, e1, hn, ha, room, hc⟩
      · have hl0 : l = 0 := by omega
        have hh0 : hh = 0 := by omega
        subst hl0; subst hh0
        refine ⟨.slice none 0 0, .inr (.of .sliceN), fun w => exec a w _ _ hu (by simp) ?_⟩
        simp [Instr.slice, run_underlying hu, e1, hb 0 (Nat.le_refl _) (.inl rfl) w, size_run hz]
      · have hez : s.esz = z := by have := hsp _ rfl; simpa using this
        refine ⟨.slice (some (if C = l.toNat then A else A.add (l.toNat * z))) (hh.toNat - l.toNat) (C - l.toNat), .inr (.of ?_), fun w => exec a w _ _ hu (by simp) ?_⟩
        · refine VRel.slice (s := s) hs rfl (by omega) ?_ ?_ ?_
          · by_cases hC : C = l.toNat
            · exact .inl (by omega)
            · right
              rw [if_neg hC, ha.resolve_left (by omega), add_addr, hez]
              show (⟨s.blk, s.base + r * z + l.toNat * z, none⟩ : Addr) = ⟨s.blk, s.base + (r + l.toNat) * z, none⟩
              congr 1; rw [Nat.add_mul]; omega
          · intro hrw
            have := room hrw
            rw [show r + l.toNat + (C - l.toNat) = r + C from by omega]; exact this
          · rcases hc with rfl | rfl
            · exact .inl rfl
            · right; simp; omega
        · rw [e1]
          simp only [Instr.slice, Sem.run_bind, run_underlying hu, Result.andThen_ok, hb C hn hc w, size_run hz, Sem.run_pure, Option.map_none]
          by_cases hC : C = l.toNat <;> simp [hC]
    · rename_i km m hmx
      obtain ⟨l, hl, hq⟩ := loc h
      clear h
      split at hq
      case h_2 => exact hq.elim
      rename_i kh hh hhi
      obtain ⟨h0, h1, h2, h3, hsp, his, h⟩ := hq
      obtain ⟨ym, rfl, hym⟩ : ∃ y, mx = some y ∧ ev st.t y = .int km m := by cases mx <;> simp at hmx; exact ⟨_, rfl, hmx⟩
      obtain ⟨yh, rfl, hyh⟩ : ∃ y, hi = some y ∧ ev st.t y = .int kh hh := by cases hi <;> simp at hhi; exact ⟨_, rfl, hhi⟩
      refine ⟨_, h, .pure fun L lam a kn => ?_⟩
      rcases key L lam a kn with ⟨rfl, rfl, rfl, e1⟩ | ⟨b, r, s, A, C, rfl, hs, e1, hn, ha, room, hc⟩
      · cases his
      · have hez : s.esz = z := by have := hsp _ rfl; simpa using this
        have hb : ∀ w, (Instr.sliceBounds true n C (lo.map a.eval) (some (a.eval yh)) (some (a.eval ym))).run P w = .ok (l.toNat, hh.toNat, m.toNat) w := fun w =>
          bounds_run (P := P) (isS := true) (len := n) (cap := C) (l := l) (h := hh) (m := m) (los L lam a kn l hl) (.inr ⟨kh, by rw [kn.int hyh]⟩) (.inr ⟨km, by rw [kn.int hym]⟩) h0 h1 h2 (by omega) w
        refine ⟨.slice (some (if m.toNat = l.toNat then A else A.add (l.toNat * z))) (hh.toNat - l.toNat) (m.toNat - l.toNat), .inr (.of ?_), fun w => exec a w _ _ hu (by simp) ?_⟩
        · refine VRel.slice (s := s) hs rfl (by omega) ?_ ?_ (.inr rfl)
          · by_cases hC : m.toNat = l.toNat
            · exact .inl (by omega)
            · right
              rw [if_neg hC, ha.resolve_left (by omega), add_addr, hez]
              show (⟨s.blk, s.base + r * z + l.toNat * z, none⟩ : Addr) = ⟨s.blk, s.base + (r + l.toNat) * z, none⟩
              congr 1; rw [Nat.add_mul]; omega
          · intro hrw
            have h5 := room hrw
            show s.base + (r + l.toNat + (m.toNat - l.toNat)) * s.esz ≤ s.bsz
            have h6 : (r + l.toNat + (m.toNat - l.toNat)) * s.esz ≤ (r + C) * s.esz := Nat.mul_le_mul_right _ (by omega)
            omega
        · rw [e1]
          simp only [Instr.slice, Sem.run_bind, run_underlying hu, Result.andThen_ok, Option.map_some, hb w, size_run hz, Sem.run_pure]
          by_cases hC : m.toNat = l.toNat <;> simp [hC]
    · exact h.elim
  · exact h.elim
end
end Go.Abs
namespace Go.Abs
def AHeap.rowsOf (h : AHeap) (v : Value) : Option (List (List Value)) :=
  match v with
  | .slice none 0 0 => some []
  | .slice (some ⟨l, r, some e⟩) n _ => match h.get l with
    | some o => bif o.esz == e && decide (r + n ≤ o.rows.length) then some ((o.rows.drop r).take n) else none
    | none => none
  | _ => none
theorem flat_get {e : Nat} : ∀ (rows : List (List Value)), (∀ row ∈ rows, row.length = e) → ∀ (i j : Nat), j < e → rows.flatten[i * e + j]? = (rows[i]?).bind (·[j]?)
  | [], _, i, j, _ => by simp
  | row :: rows, h, i, j, hj => by
    have hr := h row (by simp)
    rw [List.flatten_cons]
    cases i with
    | zero => rw [Nat.zero_mul, Nat.zero_add, List.getElem?_append_left (by omega)]; simp
    | succ i =>
      rw [Nat.succ_mul, List.getElem?_append_right (by omega), show i * e + e + j - row.length = i * e + j from by omega, flat_get rows (fun x hx => h x (by simp [hx])) i j hj]
      simp
theorem flat_length {e : Nat} : ∀ (rows : List (List Value)), (∀ row ∈ rows, row.length = e) → rows.flatten.length = rows.length * e
  | [], _ => by simp
  | row :: rows, h => by
    rw [List.flatten_cons, List.length_append, h row (by simp), flat_length rows (fun x hx => h x (by simp [hx])), List.length_cons, Nat.succ_mul]; omega
def FRel (L : Lay) (rows : List (List Value)) (e : Nat) (cs : List Value) : Prop :=
  (∀ row ∈ rows, row.length = e) ∧ cs.length = rows.length * e ∧ ∀ (i : Nat) (row : List Value), rows[i]? = some row → ∀ (j : Nat) (v : Value), row[j]? = some v → ∃ V, cs[i * e + j]? = some V ∧ VRel L v V
theorem FRel.append {L : Lay} {xs ys : List (List Value)} {e : Nat} {cs ds : List Value} (h : FRel L xs e cs) (k : FRel L ys e ds) : FRel L (xs ++ ys) e (cs ++ ds) := by
  refine ⟨fun row hr => (List.mem_append.1 hr).elim (h.1 row) (k.1 row), by rw [List.length_append, List.length_append, h.2.1, k.2.1, Nat.add_mul], fun i row hi j v hj => ?_⟩
  by_cases hlt : i < xs.length
  · rw [List.getElem?_append_left hlt] at hi
    obtain ⟨V, a, b⟩ := h.2.2 i row hi j v hj
    exact ⟨V, by rw [List.getElem?_append_left (List.getElem?_eq_some_iff.1 a).1]; exact a, b⟩
  · rw [List.getElem?_append_right (by omega)] at hi
    obtain ⟨V, a, b⟩ := k.2.2 _ row hi j v hj
    refine ⟨V, ?_, b⟩
    have e1 : i * e = (i - xs.length) * e + xs.length * e := by rw [← Nat.add_mul]; congr 1; omega
    rw [List.getElem?_append_right (by rw [h.2.1]; omega), h.2.1, show i * e + j - xs.length * e = (i - xs.length) * e + j from by omega]; exact a
theorem FRel.mono {L L' : Lay} (hl : L.le L') {xs : List (List Value)} {e : Nat} {cs : List Value} (h : FRel L xs e cs) : FRel L' xs e cs :=
  ⟨h.1, h.2.1, fun i row hi j v hj => let ⟨V, a, b⟩ := h.2.2 i row hi j v hj; ⟨V, a, b.mono hl⟩⟩
theorem FRel.one {L : Lay} {xs : List (List Value)} {e : Nat} {cs : List Value} (h : FRel L xs e cs) (hx : ∀ row ∈ xs, ∀ v ∈ row, oneLeaf v = true) : ∀ V ∈ cs, V.oneCell' = true := by
  intro V hV
  obtain ⟨k, hk, rfl⟩ := List.getElem_of_mem hV
  rw [h.2.1] at hk
  have he : 0 < e := by rcases Nat.eq_zero_or_pos e with h0 | h0; · subst h0; simp at hk
                        · exact h0
  have hi : k / e < xs.length := by rw [Nat.div_lt_iff_lt_mul he]; exact hk
  have hj : k % e < e := Nat.mod_lt _ he
  have hrow := List.getElem?_eq_getElem hi
  have hlen := h.1 xs[k / e] (List.getElem_mem hi)
  have hv : (xs[k / e])[k % e]? = some (xs[k / e])[k % e] := List.getElem?_eq_getElem (by rw [hlen]; exact hj)
  obtain ⟨V, a, b⟩ := h.2.2 _ _ hrow _ _ hv
  have e1 : k / e * e + k % e = k := by rw [Nat.mul_comm]; exact Nat.div_add_mod k e
  rw [e1] at a
  obtain ⟨_, a2⟩ := List.getElem?_eq_some_iff.1 a
  rw [a2]
  exact oneLeaf_rel b (hx _ (List.getElem_mem hi) _ (List.getElem_mem _))
theorem Rel.rows {L : Lay} {F R : Nat → Prop} {w0 w : World} {h : AHeap} (r : Rel L F R w0 w h) {l i e n : Nat} {c : Nat} {rows : List (List Value)} (hr : h.rowsOf (.slice (some ⟨l, i, some e⟩) n c) = some rows) {s : Site} (hs : L l = some s) :
    s.esz = e ∧ rows.length = n ∧ ∃ cs : List Value, FRel L rows e cs ∧ ∀ (j : Nat) (V : Value), cs[j]? = some V → w.cell? ⟨s.blk, s.base + i * e + j, none⟩ = some V := by
  · simp only [AHeap.rowsOf] at hr
    split at hr
    case h_2 => cases hr
    rename_i o ho
    cases hq : (o.esz == e && decide (i + n ≤ o.rows.length)) with
    | false => rw [hq] at hr; cases hr
    | true =>
    rw [hq] at hr
    simp only [Bool.and_eq_true, beq_iff_eq, decide_eq_true_eq] at hq
    obtain ⟨he, hn⟩ := hq
    obtain rfl := Option.some.inj hr
    have ob := r.obj l o s ho hs
    have hes : s.esz = e := ob.esz.trans he
    have rlen : ∀ row ∈ (o.rows.drop i).take n, row.length = e := by
      intro row hrow
      obtain ⟨k, hk, rfl⟩ := List.getElem_of_mem (List.mem_of_mem_drop (List.mem_of_mem_take hrow))
      rw [ob.len k _ (List.getElem?_eq_getElem hk), he]
    have hl : ((o.rows.drop i).take n).length = n := by rw [List.length_take, List.length_drop]; omega
    refine ⟨hes, hl, (List.range (n * e)).map fun j => (w.cell? ⟨s.blk, s.base + i * e + j, none⟩).getD undef, ⟨rlen, by simp [hl], fun k row hk j v hj => ?_⟩, fun j V hj => ?_⟩
    · rw [List.getElem?_take] at hk
      split at hk
      · rename_i hkn
        rw [List.getElem?_drop] at hk
        obtain ⟨V, a, b⟩ := ob.cell (i + k) row hk j v hj
        refine ⟨V, ?_, b⟩
        have hj' : j < e := by have := (List.getElem?_eq_some_iff.1 hj).1; rw [ob.len _ _ hk, he] at this; exact this
        have hke : k * e + j < n * e := by
          have : (k + 1) * e ≤ n * e := Nat.mul_le_mul_right _ hkn
          rw [Nat.succ_mul] at this; omega
        rw [hes, Nat.add_mul] at a
        rw [List.getElem?_map, List.getElem?_range hke]
        simp only [Option.map_some]
        rw [show s.base + i * e + (k * e + j) = s.base + (i * e + k * e) + j from by omega, a]; rfl
      · cases hk
    · rw [List.getElem?_map] at hj
      simp only [Option.map_eq_some_iff] at hj
      obtain ⟨k, hk, rfl⟩ := hj
      have hkj : k = j ∧ j < n * e := by
        rw [List.getElem?_eq_some_iff] at hk
        obtain ⟨h1, h2⟩ := hk
        simp at h1 h2; exact ⟨h2.symm, h1⟩
      obtain ⟨rfl, hk2⟩ := hkj
      have he0 : 0 < e := by rcases Nat.eq_zero_or_pos e with h0 | h0; · subst h0; simp at hk2
                             · exact h0
      have hi : k / e < n := by rw [Nat.div_lt_iff_lt_mul he0]; exact hk2
      have hj : k % e < e := Nat.mod_lt _ he0
      have hlt : i + k / e < o.rows.length := by omega
      have hrl := ob.len _ _ (List.getElem?_eq_getElem hlt)
      obtain ⟨V, a, _⟩ := ob.cell _ _ (List.getElem?_eq_getElem hlt) (k % e) _ (List.getElem?_eq_getElem (by rw [hrl, he]; exact hj))
      have e1 : e * (k / e) + k % e = k := Nat.div_add_mod k e
      rw [hes, Nat.add_mul] at a
      rw [show s.base + i * e + k = s.base + (i * e + k / e * e) + k % e from by rw [Nat.mul_comm (k / e)]; omega, a]; rfl
def bytesRows (s : ByteArray) : List (List Value) := s.data.toList.map fun b => [.int .u8 b.toNat]
def setRows (rows : List (List Value)) (r : Nat) (xs : List (List Value)) : List (List Value) := rows.take r ++ xs ++ rows.drop (r + xs.length)
theorem setRows_get {rows xs : List (List Value)} {r : Nat} (h : r + xs.length ≤ rows.length) (j : Nat) :
    (setRows rows r xs)[j]? = if j < r then rows[j]? else if j < r + xs.length then xs[j - r]? else rows[j]? := by
  unfold setRows
  have hc : (rows.take r).length = r := by rw [List.length_take]; omega
  by_cases h1 : j < r
  · rw [if_pos h1, List.append_assoc, List.getElem?_append_left (by omega), List.getElem?_take, if_pos h1]
  · rw [if_neg h1, List.append_assoc, List.getElem?_append_right (by omega), hc]
    by_cases h2 : j < r + xs.length
    · rw [if_pos h2, List.getElem?_append_left (by omega)]
    · rw [if_neg h2, List.getElem?_append_right (by omega), List.getElem?_drop]; congr 1; omega
def AHeap.wrs (h : AHeap) (l r e : Nat) (xs : List (List Value)) : Option AHeap :=
  match h.get l with
  | some o => bif o.rw && (o.esz == e && decide (r + xs.length ≤ o.rows.length)) then some (h.put l (some { o with rows := setRows o.rows r xs })) else none
  | none => none
def AHeap.app (h : AHeap) (s : Value) (xs : List (List Value)) (e : Nat) : Option (Value × AHeap) :=
  match s with
  | .slice a n c => match xs with
    | [] => some (.slice a n c, h)
    | x :: xs => match a with
      | none => some (.slice (some ⟨h.n, 0, some e⟩) (x :: xs).length 0, h.push ⟨x :: xs, e, true⟩)
      | some ⟨l, r, some e'⟩ => match h.rowsOf (.slice (some ⟨l, r, some e'⟩) n c) with
        | some ss => bif e' == e then
            (bif c != 0 && decide (c ≤ n + (x :: xs).length) then some (.slice (some ⟨h.n, 0, some e⟩) (n + (x :: xs).length) 0, h.push ⟨ss ++ x :: xs, e, true⟩)
             else match h.get l with
              | some o => bif o.rw then (bif c != 0 && decide (r + n + (x :: xs).length ≤ o.rows.length) then some (.slice (some ⟨l, r, some e⟩) (n + (x :: xs).length) c, h.put l (some { o with rows := setRows o.rows (r + n) (x :: xs) }))
                  else some (.slice (some ⟨h.n, 0, some e⟩) (n + (x :: xs).length) 0, (h.put l none).push ⟨ss ++ x :: xs, e, true⟩)) else none
              | none => none)
          else none
        | none => none
      | _ => none
  | _ => none
def rowsV (h : AHeap) (x : Value) : Option (List (List Value)) :=
  match x with
  | .string s => some (bytesRows s)
  | x => h.rowsOf x
def bytesOf (P : Program) (t : TypeId) : Nat := ((P.info? t).map (·.bytes)).getD 0
def sliceLen : Value → Nat | .slice _ n _ => n | _ => 0
def vcAppend (P : Program) (t t' : TypeId) (s x : Value) (st : St) (K : Value → St → Prop) : Prop :=
  match P.underlying t with
  | some (.slice e) => match szOf P e, zeroOf P e with
    | some z, some zv => bs (decide (0 < z) && decide (0 < bytesOf P e) && plain zv && decide ((cellsL zv).length = z) && (match P.underlying t' with | some (.slice _) => true | some .string => true | _ => false))
        (∃ xs, rowsV st.h x = some xs ∧ (xs.all fun row => decide (row.length = z) && row.all oneLeaf) = true ∧ (sliceLen s + xs.length) * bytesOf P e ≤ 140737488355328 ∧ ∃ a n c h', st.h.app s xs z = some (.slice a n c, h') ∧ K (.slice a n c) { st with h := h' }) False
    | _, _ => False
  | _ => False
end Go.Abs
namespace Go.Abs
section
variable {P : Program} {w : World}
theorem run_append_in {t t' e ty : TypeId} {d : TypeDesc} {z n m C : Nat} {A : Addr} {X : Value} {cs : Array Value} {w' : World} (ht : P.underlying t = some (.slice e)) (ht' : P.underlying t' = some d) (hd : d = .string ∨ ∃ e', d = .slice e') (hz : szOf P e = some z)
    (hlen : ∀ w, (Builtin.lenOf X).run P w = .ok m w) (hcs : (Builtin.firstCells z m X).run P w = .ok cs w) (hroom : n + m ≤ C) (hst : (storeCells (A.add (n * z)) cs.toList).run P w = .ok () w') :
    (Builtin.append_ #[t, t'] ty #[.slice (some A) n C, X]).run P w = .ok (.slice (some A) (n + m) C) w' := by
  rcases hd with rfl | ⟨e', rfl⟩ <;> simp [Builtin.append_, run_underlying ht, run_underlying ht', size_run hz, hlen, hcs, hroom, hst]
theorem run_append_nil' {t t' e ty : TypeId} {d : TypeDesc} {z m : Nat} {X : Value} {cs : Array Value} (ht : P.underlying t = some (.slice e)) (ht' : P.underlying t' = some d) (hd : d = .string ∨ ∃ e', d = .slice e') (hz : szOf P e = some z)
    (hlen : ∀ w, (Builtin.lenOf X).run P w = .ok m w) (hcs : (Builtin.firstCells z m X).run P w = .ok cs w) (hroom : m = 0) :
    (Builtin.append_ #[t, t'] ty #[.slice none 0 0, X]).run P w = .ok (.slice none 0 0) w := by
  subst hroom
  rcases hd with rfl | ⟨e', rfl⟩ <;> simp [Builtin.append_, run_underlying ht, run_underlying ht', size_run hz, hlen, hcs]
set_option maxHeartbeats 1000000 in
theorem run_append_out {t t' e ty : TypeId} {d : TypeDesc} {z n m C : Nat} {B : Option Addr} {X zv : Value} {cs ds : Array Value} (ht : P.underlying t = some (.slice e)) (ht' : P.underlying t' = some d) (hd : d = .string ∨ ∃ e', d = .slice e') (hz : szOf P e = some z)
    (hzv : zeroOf P e = some zv) (hb0 : 0 < bytesOf P e) (hlen : ∀ w, (Builtin.lenOf X).run P w = .ok m w) (hcs : (Builtin.firstCells z m X).run P w.drew = .ok cs w.drew) (hds : (Builtin.firstCells z n (.slice B n C)).run P w.drew = .ok ds w.drew)
    (hroom : ¬ n + m ≤ C) (hby : (n + m) * bytesOf P e ≤ 140737488355328) :
    ∃ q, n + m ≤ q ∧ (Builtin.append_ #[t, t'] ty #[.slice B n C, X]).run P w = .ok (.slice (some ⟨w.heap.size, 0, none⟩) (n + m) q) (w.drew.alloc (.cells (ds ++ cs ++ Builtin.zeroCells zv.cells (q - (n + m))) e)) := by
  have hbig : n + m ≤ 140737488355328 := Nat.le_trans (Nat.le_mul_of_pos_right _ hb0) hby
  have hg := growslice_fits (need := n + m) (old := C) (bytes := bytesOf P e) (by omega) hby
  obtain ⟨ti, hti, hbt⟩ : ∃ ti, P.info? e = some ti ∧ ti.bytes = bytesOf P e := by
    unfold szOf at hz
    cases hi : P.info? e with
    | none => rw [hi] at hz; cases hz
    | some ti => exact ⟨ti, rfl, by simp [bytesOf, hi]⟩
  refine ⟨n + m + w.tape w.drawn (.appendCap (n + m) C e) % (2 ^ 63 - (n + m)), Nat.le_add_right _ _, ?_⟩
  have h2 : ¬ Builtin.nextslicecap (n + m) C * ti.bytes > 2 ^ 48 := by rw [hbt]; omega
  have h3 : ti.bytes ≠ 0 := by omega
  have ask : ∀ (b : Nat) (w : World), (askRoom b).run P w = .ok () w := by
    intro b w; unfold askRoom; split <;> rfl
  rcases hd with rfl | ⟨e', rfl⟩ <;> simp [Builtin.append_, run_underlying ht, run_underlying ht', size_run hz, hlen, hroom, typeInfo, hti, h2, h3, Question.forced, Question.cut, ask, hcs, hds, zero_run hzv, run_newRow']
end
theorem rowsV_run {P : Program} {L : Lay} {F R : Nat → Prop} {w0 w : World} {h : AHeap} (r : Rel L F R w0 w h) {x X : Value} {xs : List (List Value)} {z : Nat} (hx : VRel L x X) (hr : rowsV h x = some xs) (hz : ∀ row ∈ xs, row.length = z) :
    ∃ cs : List Value, FRel L xs z cs ∧ (∀ w, (Builtin.lenOf X).run P w = .ok xs.length w) ∧ (∀ n, (Builtin.firstCells z xs.length X).run P { w with drawn := n } = .ok cs.toArray { w with drawn := n }) := by
  unfold rowsV at hr
  split at hr
  · rename_i s
    cases hx
    obtain rfl := Option.some.inj hr
    refine ⟨s.data.toList.map fun b => .int .u8 b.toNat, ⟨hz, ?_, ?_⟩, ?_, ?_⟩
    · by_cases h0 : s.data.toList = []
      · simp [bytesRows, h0]
      · obtain ⟨b, l, e⟩ := List.exists_cons_of_ne_nil h0
        have : z = 1 := by
          have := hz [.int .u8 b.toNat] (by simp [bytesRows, e])
          simpa using this.symm
        subst this; simp [bytesRows]
    · intro i row hi j v hj
      simp only [bytesRows, List.getElem?_map, Option.map_eq_some_iff] at hi
      obtain ⟨b, hb, rfl⟩ := hi
      have z1 : z = 1 := by
        have := hz [.int .u8 b.toNat] (by simp only [bytesRows, List.mem_map]; exact ⟨b, List.mem_of_getElem? hb, rfl⟩)
        simpa using this.symm
      subst z1
      cases j with
      | zero => simp at hj; subst hj; exact ⟨_, by rw [Nat.mul_one, Nat.add_zero, List.getElem?_map, hb]; rfl, .int _ _⟩
      | succ j => simp at hj
    · intro w; simp [Builtin.lenOf, bytesRows]
    · intro n
      have : s.size = (bytesRows s).length := by simp [bytesRows]
      have e : s.extract 0 (bytesRows s).length = s := by rw [← this]; simp
      simp only [Builtin.firstCells, e, Sem.run_pure]
      congr 1
      rw [← Array.toList_map, Array.toArray_toList]
  · cases hx with
    | sliceN =>
      obtain rfl := Option.some.inj hr
      exact ⟨[], ⟨hz, by simp, fun i row hi => by simp at hi⟩, fun w => by simp [Builtin.lenOf], fun n => by simp [Builtin.firstCells]⟩
    | slice hL he hn ha room hc =>
      rename_i l i e n c C s A hns
      obtain ⟨hes, hlen, cs, hF, hcell⟩ := r.rows hr hL
      by_cases h0 : xs = []
      · subst h0
        have hn0 : n = 0 := by simpa using hlen.symm
        refine ⟨[], ⟨hz, by simp, fun i row hi => by simp at hi⟩, fun w => by simp [Builtin.lenOf, hn0], fun q => ?_⟩
        have := run_firstCells_some (P := P) { w with drawn := q } z 0 A n C [] (by simp) (by simp)
        simpa using this
      · obtain ⟨row, rest, e0⟩ := List.exists_cons_of_ne_nil h0
        have ez : e = z := by
          have h1 := hF.1 row (by rw [e0]; simp)
          have h2 := hz row (by rw [e0]; simp)
          omega
        subst ez
        have hC : C ≠ 0 := by
          have : 0 < xs.length := by rw [e0]; simp
          omega
        have hA := ha.resolve_left hC
        refine ⟨cs, hF, fun w => by simp [Builtin.lenOf, hlen], fun q => ?_⟩
        refine run_firstCells_some (P := P) { w with drawn := q } e xs.length A n C cs hF.2.1 fun j v hj => ?_
        rw [hA, add_addr]
        exact hcell j v hj
    | _ => first | cases hr | (unfold AHeap.rowsOf at hr; cases hr)
theorem StRel.rehome {L : Lay} {F R : Nat → Prop} {w0 w w' : World} {lam : List Nat} {nt : Nat} {st : St} {T : Array Value} (r : StRel L F R w0 w lam nt st T) {l : Nat} {o o' : AObj} {s s' : Site} (hl : st.h.get l = some o) (hs : L l = some s)
    (hrw : o.rw = true) (hrw' : o'.rw = true) (hb : s'.blk = s.blk) (t : Turns w w' s.blk) (ho : ObjRel (L.set st.h.n s') w' s' o') :
    StRel (L.set st.h.n s') F R w0 w' lam nt { st with h := (st.h.put l none).push o' } T ∧ Ext L st.h (L.set st.h.n s') ((st.h.put l none).push o') := by
  have hk := r.rel.kill l
  have hno : ∀ x y q, (st.h.put l none).get x = some y → L x = some q → q.blk ≠ s'.blk := by
    intro x y q h1 h2 e
    by_cases ex : x = l
    · subst ex; rw [AHeap.get_put_eq] at h1; cases h1
    · rw [AHeap.get_put_ne ex] at h1
      exact r.rel.apart l x o y s q hl h1 hs h2 hrw (Ne.symm ex) (by rw [e, hb])
  have hlam : s.blk ∉ lam := r.lrw l o s hl hs hrw
  have hle := Lay.le_set (L := L) (r.rel.unl st.h.n (Nat.le_refl _)) s'
  have pa := hk.pushAt (s := s') hrw' (by rw [hb]; exact r.rel.free l o s hl hs hrw) hno (by rw [hb]; exact t) (by exact ho)
  refine ⟨⟨pa, r.tsz, r.llen, r.lnd, r.lF, ?_, ?_, fun i => (r.slots i).mono hle (List.prefix_refl _)⟩, ⟨Nat.le_succ _, fun x hx => if_neg (by have : x < st.h.n := hx; omega)⟩⟩
  · intro x y q h1 h2 h3 hm
    by_cases e : x = st.h.n
    · subst e
      obtain rfl := Option.some.inj ((if_pos rfl).symm.trans h2)
      exact hlam (hb ▸ hm)
    · have h1' : (st.h.put l none).get x = some y := (AHeap.get_push_ne (h := st.h.put l none) e).symm.trans h1
      by_cases ex : x = l
      · subst ex; rw [AHeap.get_put_eq] at h1'; cases h1'
      · rw [AHeap.get_put_ne ex] at h1'
        exact r.lrw x y q h1' ((if_neg e).symm.trans h2) h3 hm
  · intro i b row h1 h2
    obtain ⟨c, q, a, d, f⟩ := r.lblk i b row h1 h2
    exact ⟨c, q, (t.block _ (fun e => hlam (e ▸ List.mem_of_getElem? h1))).trans a, d, fun j v hv => let ⟨V, x, y⟩ := f j v hv; ⟨V, x, y.mono hle⟩⟩
end Go.Abs
namespace Go.Abs
section
variable {P : Program} {nt : Nat} {o : Oper} {st : St}
theorem FRel.obj {L : Lay} {rows : List (List Value)} {e : Nat} {cs : List Value} {A : Array Value} {off : Nat} (h : FRel L rows e cs) (hA : ∀ (j : Nat) (V : Value), cs[j]? = some V → A[off + j]? = some V) :
    ∀ (i : Nat) (row : List Value), rows[i]? = some row → ∀ (j : Nat) (v : Value), row[j]? = some v → ∃ V, A[off + (i * e + j)]? = some V ∧ VRel L v V :=
  fun i row hi j v hj => let ⟨V, a, b⟩ := h.2.2 i row hi j v hj; ⟨V, hA _ V a, b⟩
theorem FRel.len {L : Lay} {rows : List (List Value)} {e : Nat} {cs : List Value} (h : FRel L rows e cs) : ∀ (i : Nat) (row : List Value), rows[i]? = some row → row.length = e :=
  fun _ row hi => h.1 row (List.mem_of_getElem? hi)
theorem grown_rel {L : Lay} {F R : Nat → Prop} {w0 w : World} {lam : List Nat} {a : Act} (r : StRel L F R w0 w lam nt st a.tmps) {rows : List (List Value)} {z q : Nat} {cs zc : List Value} {e : TypeId} (hF : FRel L rows z cs) (hz : zc.length = z) (hq : rows.length ≤ q) :
    ∃ L', VRel L' (.slice (some ⟨st.h.n, 0, some z⟩) rows.length 0) (.slice (some ⟨w.heap.size, 0, none⟩) rows.length q) ∧ Ext L st.h L' (st.h.push ⟨rows, z, true⟩) ∧
      StRel L' F R w0 (w.drew.alloc (.cells (cs.toArray ++ Builtin.zeroCells zc.toArray (q - rows.length)) e)) lam nt { st with h := st.h.push ⟨rows, z, true⟩ } a.tmps := by
  have rd : StRel L F R w0 w.drew lam nt st a.tmps := ⟨r.rel.drew _, r.tsz, r.llen, r.lnd, r.lF, r.lrw, r.lblk, r.slots⟩
  have key := rd.heap (o := ⟨rows, z, true⟩) (cs := cs.toArray ++ Builtin.zeroCells zc.toArray (q - rows.length)) e (0, 0) (.inl (Nat.le_refl _)) rfl (fun i row hi => hF.len i row hi) (fun i row hi j v hj => by
    obtain ⟨V, a1, a2⟩ := hF.2.2 i row hi j v hj
    refine ⟨V, ?_, a2⟩
    rw [Array.getElem?_append_left (by have := (List.getElem?_eq_some_iff.1 a1).1; simpa using this)]
    simpa using a1)
  refine ⟨_, ?_, key.2, key.1⟩
  refine VRel.slice (s := ⟨w.heap.size, 0, z, _, true⟩) (if_pos rfl) rfl hq (.inr ?_) (fun _ => ?_) (.inl rfl)
  · simp
  · show 0 + (0 + q) * z ≤ (cs.toArray ++ Builtin.zeroCells zc.toArray (q - rows.length)).size
    have : (Builtin.zeroCells zc.toArray (q - rows.length)).size = (q - rows.length) * z := by simp [Builtin.zeroCells, hz]
    rw [Array.size_append, this, List.size_toArray, hF.2.1, ← Nat.add_mul]
    rw [show 0 + (0 + q) * z = q * z from by rw [Nat.zero_add, Nat.zero_add], show rows.length + (q - rows.length) = q from by omega]
    exact Nat.le_refl _
theorem StRel.wrs {L : Lay} {F R : Nat → Prop} {w0 w : World} {lam : List Nat} {nt : Nat} {st : St} {T : Array Value} (P : Program) (r : StRel L F R w0 w lam nt st T) {l i e : Nat} {xs : List (List Value)} {h' : AHeap} {s : Site} (hw : st.h.wrs l i e xs = some h') (hs : L l = some s) {cs : List Value} (hF : FRel L xs e cs) (he : 0 < e) (hx : xs ≠ [])
    (h1 : ∀ V ∈ cs, V.oneCell' = true) : s.esz = e ∧ ∃ w', (storeCells ⟨s.blk, s.base + i * e, none⟩ cs 0).run P w = .ok () w' ∧ StRel L F R w0 w' lam nt { st with h := h' } T := by
  unfold AHeap.wrs at hw
  split at hw
  case h_2 => cases hw
  rename_i ob hob
  cases hq : (ob.rw && (ob.esz == e && decide (i + xs.length ≤ ob.rows.length))) with
  | false => rw [hq] at hw; cases hw
  | true =>
  rw [hq] at hw
  simp only [Bool.and_eq_true, beq_iff_eq, decide_eq_true_eq] at hq
  obtain ⟨hrw, hoe, hfit⟩ := hq
  obtain rfl := Option.some.inj hw
  have or := r.rel.obj l ob s hob hs
  have hes : s.esz = e := or.esz.trans hoe
  refine ⟨hes, ?_⟩
  obtain ⟨bc, ty, fr, hh, hbs, hfr⟩ := or.own hrw
  have oldc : ∀ k, w.cell? ⟨s.blk, k, none⟩ = bc[k]? := by
    intro k; unfold World.cell?; rw [hh]; simp
  have hxl : 0 < xs.length := List.length_pos_iff.2 hx
  have hcl := hF.2.1
  have inb : s.base + i * e + cs.length ≤ bc.size := by
    rw [hcl]
    have hk : i + xs.length - 1 < ob.rows.length := by omega
    have hrl := or.len _ _ (List.getElem?_eq_getElem hk)
    obtain ⟨V, a, _⟩ := or.cell _ _ (List.getElem?_eq_getElem hk) (e - 1) _ (List.getElem?_eq_getElem (by rw [hrl, hoe]; omega))
    rw [oldc] at a
    have := (Array.getElem?_eq_some_iff.1 a).1
    rw [hes] at this
    have h2 : (i + xs.length - 1) * e + e = i * e + xs.length * e := by
      rw [← Nat.succ_mul, ← Nat.add_mul]; congr 1; omega
    omega
  have run := run_store_cells P s.blk (s.base + i * e) ty fr cs 0 bc w hh (hfr.imp id And.right) (by rw [Nat.add_zero]; exact inb) h1
  rw [Nat.add_zero] at run
  have run' : (storeCells ⟨s.blk, s.base + i * e, none⟩ cs 0).run P w = .ok () (w.setRow s.blk (setRange bc.toList (s.base + i * e) cs).toArray) := run
  have hbl : bc.toList.length = bc.size := Array.length_toList
  have T' : Turns w (w.setRow s.blk (setRange bc.toList (s.base + i * e) cs).toArray) s.blk := turns_setRow _
  have hheap := setRow_heap w s.blk bc (setRange bc.toList (s.base + i * e) cs).toArray ty fr hh
  have hfit2 : s.base + i * e + cs.length ≤ bc.toList.length := by omega
  have hlen' : (setRange bc.toList (s.base + i * e) cs).length = bc.size := by rw [setRange_length hfit2, hbl]
  refine ⟨_, run', r.setObj hob hs hrw hrw T' ?_⟩
  refine ⟨or.esz, or.rw, by rw [T'.size]; exact or.lt, ?_, ?_, fun _ => ⟨_, ty, fr, hheap, by rw [List.size_toArray, hlen', hbs], by rw [List.size_toArray, hlen']; exact hfr⟩⟩
  · intro r' row' hr'
    rw [setRows_get hfit] at hr'
    split at hr'
    · exact or.len r' row' hr'
    · split at hr'
      · rw [hF.1 row' (List.mem_of_getElem? hr')]; exact hoe.symm
      · exact or.len r' row' hr'
  · intro r' row' hr' j v hv
    have cell : ∀ k, (w.setRow s.blk (setRange bc.toList (s.base + i * e) cs).toArray).cell? ⟨s.blk, k, none⟩ = (setRange bc.toList (s.base + i * e) cs)[k]? := by
      intro k; unfold World.cell?; rw [hheap]; simp
    rw [cell, hes, setRange_get hfit2]
    have hj : j < e := by
      have h2 := (List.getElem?_eq_some_iff.1 hv).1
      rw [setRows_get hfit] at hr'
      have h3 : row'.length = e := by
        split at hr'
        · rw [or.len r' row' hr', hoe]
        · split at hr'
          · exact hF.1 row' (List.mem_of_getElem? hr')
          · rw [or.len r' row' hr', hoe]
      omega
    rw [setRows_get hfit] at hr'
    have le1 : (i + xs.length) * e = i * e + xs.length * e := Nat.add_mul _ _ _
    split at hr'
    · rename_i hlt
      have h2 : (r' + 1) * e ≤ i * e := Nat.mul_le_mul_right _ hlt
      rw [Nat.succ_mul] at h2
      have hold := or.cell r' row' hr' j v hv
      rw [oldc, hes] at hold
      rw [if_pos (by omega), Array.getElem?_toList]; exact hold
    · rename_i hge
      split at hr'
      · rename_i hlt
        obtain ⟨V, a1, a2⟩ := hF.2.2 _ _ hr' j v hv
        have hm : r' * e = i * e + (r' - i) * e := by rw [← Nat.add_mul]; congr 1; omega
        have hb := (List.getElem?_eq_some_iff.1 a1).1
        rw [if_neg (by omega), if_pos (by omega), show s.base + r' * e + j - (s.base + i * e) = (r' - i) * e + j from by omega]
        exact ⟨V, a1, a2⟩
      · rename_i hge2
        have h2 : (i + xs.length) * e ≤ r' * e := Nat.mul_le_mul_right _ (by omega)
        have hold := or.cell r' row' hr' j v hv
        rw [oldc, hes] at hold
        rw [if_neg (by omega), if_neg (by omega), Array.getElem?_toList]; exact hold
theorem StRel.kill {L : Lay} {F R : Nat → Prop} {w0 w : World} {lam : List Nat} {st : St} {T : Array Value} (r : StRel L F R w0 w lam nt st T) (l : Nat) : StRel L F R w0 w lam nt { st with h := st.h.put l none } T := by
  refine ⟨r.rel.kill l, r.tsz, r.llen, r.lnd, r.lF, fun x o s h1 h2 h3 => ?_, r.lblk, r.slots⟩
  by_cases e : x = l
  · subst e; rw [AHeap.get_put_eq] at h1; cases h1
  · rw [AHeap.get_put_ne e] at h1; exact r.lrw x o s h1 h2 h3
theorem append_sound {c : Call} {x y : Operand} {t t' : TypeId} {K : Value → St → Prop} (ho : o.op = .call c) (hc : c.callee = .builtin .append) (ha : c.args = #[x, y]) (ht : c.argTypes = #[t, t'])
    (h : vcAppend P t t' (ev st.t x) (ev st.t y) st K) : ∃ v st', K v st' ∧ OpSem P nt o st v st' := by
  have exec : ∀ (a : Act) (w w' : World) (V : Value), (Builtin.append_ #[t, t'] o.type #[a.eval x, a.eval y]).run P w = .ok V w' → (execOp a.eval o).run P w = .ok (.value V) w' := by
    intro a w w' V hr
    unfold execOp; rw [ho]
    simp [resolve, hc, ha, ht, invoke, builtin, hr]
  unfold vcAppend at h
  split at h
  case h_2 => exact h.elim
  rename_i e hu
  split at h
  case h_2 => exact h.elim
  rename_i z zv hz hzv
  obtain ⟨hq, xs, hxs, hall, hby, ra, rn, rc, h', happ, hK⟩ := bs_false h
  generalize Value.slice ra rn rc = v at happ hK
  simp only [Bool.and_eq_true, decide_eq_true_eq] at hq
  obtain ⟨⟨⟨⟨hz0, hb0⟩, hpz⟩, hzl⟩, hu2⟩ := hq
  obtain ⟨d, hd', hd⟩ : ∃ d, P.underlying t' = some d ∧ (d = .string ∨ ∃ e', d = .slice e') := by
    split at hu2
    · rename_i e' hh; exact ⟨_, hh, .inr ⟨_, rfl⟩⟩
    · rename_i hh; exact ⟨_, hh, .inl rfl⟩
    · cases hu2
  simp only [List.all_eq_true, Bool.and_eq_true, decide_eq_true_eq] at hall
  have hlen : ∀ row ∈ xs, row.length = z := fun row hr => (hall row hr).1
  have hone : ∀ row ∈ xs, ∀ v ∈ row, oneLeaf v = true := fun row hr v hv => (hall row hr).2 v hv
  have hyv : ev st.t y ≠ undef := by intro e0; rw [e0] at hxs; simp [rowsV, undef, AHeap.rowsOf] at hxs
  have hyok : ∀ (L : Lay) (lam : List Nat) (a : Act), Known L lam st.t a.tmps → VRel L (ev st.t y) (a.eval y) := by
    intro L lam a kn
    refine (kn.of rfl hyv).ok ?_
    revert hxs; cases ev st.t y <;> intro hxs <;> first | rfl | (simp [rowsV, AHeap.rowsOf] at hxs)
  have hzc : ∀ L, LRel L (cellsL zv) zv.cells := fun L => let c := cells_rel (VRel.plain (L := L) hpz) (plain_nj hpz); .of c.1 c.2
  have zsz : zv.cells.size = z := by rw [← (hzc (fun _ => none)).1]; exact hzl
  refine ⟨v, { st with h := h' }, hK, rfl, fun L F R w0 w lam a r _ next Q hn => ?_⟩
  have hY := hyok L lam a r.known
  obtain ⟨cs, hF, hL, hC⟩ := rowsV_run (P := P) r.rel hY hxs hlen
  have hcs : (Builtin.firstCells z xs.length (a.eval y)).run P w = .ok cs.toArray w := hC w.drawn
  have hcsd : (Builtin.firstCells z xs.length (a.eval y)).run P w.drew = .ok cs.toArray w.drew := hC (w.drawn + 1)
  unfold Oper.wp
  -- the first operand
  unfold AHeap.app at happ
  split at happ
  case h_2 => cases happ
  rename_i ad n c hx
  have hXs : VRel L (.slice ad n c) (a.eval x) := r.known.of hx (by simp [undef])
  have hby' : (n + xs.length) * bytesOf P e ≤ 140737488355328 := by rw [hx] at hby; exact hby
  split at happ
  · -- nothing is appended
    cases happ
    have hcs0 : cs = [] := List.eq_nil_of_length_eq_zero (by rw [hF.2.1]; simp)
    subst hcs0
    generalize hX : a.eval x = X at hXs
    cases hXs with
    | sliceN =>
      rw [exec a w w (.slice none 0 0) (by rw [hX]; exact run_append_nil' hu hd' hd hz hL hcs rfl), Oper.upon_value]
      exact hn _ _ L lam (.inr (.of .sliceN)) (Ext.refl _ _) (List.prefix_refl _) r
    | slice hl he hnC hA room hc' =>
      rename_i l i e' C s A
      rw [exec a w w (.slice (some A) n C) (by rw [hX]; exact run_append_in hu hd' hd hz hL hcs (by simpa using hnC) rfl), Oper.upon_value]
      exact hn _ _ L lam (.inr (.of (.slice hl he hnC hA room hc'))) (Ext.refl _ _) (List.prefix_refl _) r
  · rename_i x1 xs1
    generalize hXX : (x1 :: xs1) = XS at *
    have hpos : 0 < XS.length := by rw [← hXX]; simp
    clear hXX x1 xs1
    split at happ
    · -- nil grows
      obtain ⟨rfl, rfl⟩ := Prod.mk.inj (Option.some.inj happ)
      generalize hX : a.eval x = X at hXs
      cases hXs
      obtain ⟨q, hq, hrun⟩ := run_append_out (P := P) (w := w) (ty := o.type) (B := none) (n := 0) (C := 0) (ds := #[]) hu hd' hd hz hzv hb0 hL hcsd (by simp [Builtin.firstCells]) (by omega) hby'
      rw [exec a w _ _ (by rw [hX]; exact hrun), Oper.upon_value]
      simp only [Nat.zero_add, Array.empty_append] at hq ⊢
      obtain ⟨L', g1, g2, g3⟩ := grown_rel r (e := e) (zc := zv.cells.toList) hF (by rw [Array.length_toList]; exact zsz) hq
      simp only [Array.toArray_toList] at g3
      exact hn _ _ L' lam (.inr (.of g1)) g2 (List.prefix_refl _) g3
    · rename_i l i e'
      split at happ
      case h_2 => cases happ
      rename_i ss hss
      cases hee : (e' == z) with
      | false => rw [hee] at happ; cases happ
      | true =>
      rw [hee] at happ
      have hee' : e' = z := by simpa using hee
      subst hee'
      generalize hX : a.eval x = X at hXs
      cases hXs with
      | slice hl he hnC hA room hc' =>
      rename_i C s A
      obtain ⟨hes, hssl, ds, hD, hdc⟩ := r.rel.rows hss hl
      have hFD := hD.append hF
      have hfirst : C ≠ 0 → (Builtin.firstCells e' n (.slice (some A) n C)).run P w.drew = .ok ds.toArray w.drew := by
        intro hC
        refine run_firstCells_some (P := P) w.drew e' n A n C ds (by rw [hD.2.1, hssl]) fun j v hj => ?_
        rw [hA.resolve_left hC, add_addr]
        exact hdc j v hj
      have hfirst' : (Builtin.firstCells e' n (.slice (some A) n C)).run P w.drew = .ok ds.toArray w.drew := by
        by_cases hC : C = 0
        · have hn0 : n = 0 := by omega
          have hds0 : ds = [] := List.eq_nil_of_length_eq_zero (by rw [hD.2.1, hssl, hn0]; simp)
          subst hds0; subst hn0
          exact run_firstCells_some (P := P) w.drew e' 0 A 0 C [] (by simp) (by simp)
        · exact hfirst hC
      have grow : ¬ n + XS.length ≤ C → ∃ q, n + XS.length ≤ q ∧ (execOp a.eval o).run P w = .ok (.value (.slice (some ⟨w.heap.size, 0, none⟩) (n + XS.length) q)) (w.drew.alloc (.cells ((ds ++ cs).toArray ++ Builtin.zeroCells zv.cells (q - (n + XS.length))) e)) := by
        intro hr
        obtain ⟨q, hq, hrun⟩ := run_append_out (P := P) (w := w) (ty := o.type) (B := some A) hu hd' hd hz hzv hb0 hL hcsd hfirst' hr hby'
        refine ⟨q, hq, exec a w _ _ ?_⟩
        rw [hX, hrun]; simp
      have hlenS : (ss ++ XS).length = n + XS.length := by rw [List.length_append, hssl]
      cases hcap : (c != 0 && decide (c ≤ n + XS.length)) with
      | true =>
        rw [hcap] at happ
        simp only [Bool.and_eq_true, bne_iff_ne, decide_eq_true_eq] at hcap
        obtain ⟨rfl, rfl⟩ := Prod.mk.inj (Option.some.inj happ)
        have hr : ¬ n + XS.length ≤ C := by rcases hc' with h0 | h0; exact absurd h0 hcap.1; omega
        obtain ⟨q, hq, hrun⟩ := grow hr
        rw [hrun, Oper.upon_value]
        obtain ⟨L', g1, g2, g3⟩ := grown_rel r (e := e) (zc := zv.cells.toList) hFD (by rw [Array.length_toList]; exact zsz) (by rw [hlenS]; exact hq)
        simp only [Array.toArray_toList, hlenS] at g1 g3
        exact hn _ _ L' lam (.inr (.of g1)) g2 (List.prefix_refl _) g3
      | false =>
        rw [hcap] at happ
        simp only [cond_false] at happ
        split at happ
        case h_2 => cases happ
        rename_i ob hob
        cases hrw : ob.rw with
        | false => rw [hrw] at happ; cases happ
        | true =>
        rw [hrw] at happ
        simp only [cond_true] at happ
        cases hin2 : (c != 0 && decide (i + n + XS.length ≤ ob.rows.length)) with
        | true =>
          rw [hin2] at happ
          obtain ⟨rfl, rfl⟩ := Prod.mk.inj (Option.some.inj happ)
          simp only [Bool.and_eq_true, bne_iff_ne, decide_eq_true_eq] at hin2
          have hcC : c = C + 1 := hc'.resolve_left hin2.1
          have hr : n + XS.length ≤ C := by
            simp only [Bool.and_eq_false_iff, bne_eq_false_iff_eq, decide_eq_false_iff_not] at hcap
            rcases hcap with h0 | h0
            · exact absurd h0 hin2.1
            · omega
          have hAe := hA.resolve_left (by omega)
          have obr := r.rel.obj l ob s hob hl
          have hwrs : st.h.wrs l (i + n) e' XS = some (st.h.put l (some { ob with rows := setRows ob.rows (i + n) XS })) := by
            unfold AHeap.wrs
            rw [hob]
            simp [hrw, ← obr.esz, hes, hin2.2]
          obtain ⟨_, w', hrun, g1⟩ := StRel.wrs P r hwrs hl hF hz0 (List.ne_nil_of_length_pos hpos) (hF.one hone)
          have hrunA : (storeCells (A.add (n * e')) cs).run P w = .ok () w' := by
            rw [hAe, add_addr, show s.base + i * e' + n * e' = s.base + (i + n) * e' from by rw [Nat.add_mul]; omega]; exact hrun
          have hin := run_append_in (P := P) (w := w) (ty := o.type) (A := A) (C := C) hu hd' hd hz hL hcs hr hrunA
          rw [exec a w _ _ (by rw [hX]; exact hin), Oper.upon_value]
          exact hn _ _ L lam (.inr (.of (.slice hl he hr hA room hc'))) (⟨Nat.le_refl _, fun _ _ => rfl⟩) (List.prefix_refl _) (by rw [hrw] at g1; exact g1)
        | false =>
        rw [hin2] at happ
        obtain ⟨rfl, rfl⟩ := Prod.mk.inj (Option.some.inj happ)
        have obr := r.rel.obj l ob s hob hl
        by_cases hr : n + XS.length ≤ C
        · -- in place
          have hC : C ≠ 0 := by omega
          have hAe := hA.resolve_left hC
          obtain ⟨bc, ty, fr, hh, hbs, hfr⟩ := obr.own hrw
          have hroom := room (by rw [obr.rw]; exact hrw)
          have hstep : (i + n) * e' + XS.length * e' ≤ (i + C) * e' := by rw [← Nat.add_mul]; exact Nat.mul_le_mul_right _ (by omega)
          have hstep2 : (i + n) * e' = i * e' + n * e' := Nat.add_mul _ _ _
          have hone' : ∀ V ∈ cs, V.oneCell' = true := hF.one hone
          have hrun := run_store_cells P s.blk (s.base + i * e' + n * e') ty fr cs 0 bc w hh (hfr.imp id And.right) (by rw [Nat.add_zero, hF.2.1, hbs]; omega) hone'
          rw [Nat.add_zero] at hrun
          have hrun' : (storeCells ⟨s.blk, s.base + i * e' + n * e', none⟩ cs 0).run P w = .ok () (w.setRow s.blk (setRange bc.toList (s.base + i * e' + n * e') cs).toArray) := hrun
          have hin := run_append_in (P := P) (w := w) (ty := o.type) (A := A) (C := C) hu hd' hd hz hL hcs hr (by rw [hAe, add_addr]; exact hrun')
          rw [exec a w _ _ (by rw [hX]; exact hin), Oper.upon_value]
          clear hin hrun hrun'
          have hbl : bc.toList.length = s.bsz := by rw [Array.length_toList]; exact hbs
          have hfit : s.base + i * e' + n * e' + cs.length ≤ bc.toList.length := by rw [hbl, hF.2.1]; omega
          have T : Turns w (w.setRow s.blk (setRange bc.toList (s.base + i * e' + n * e') cs).toArray) s.blk := turns_setRow _
          have hheap := setRow_heap w s.blk bc (setRange bc.toList (s.base + i * e' + n * e') cs).toArray ty fr hh
          have hle := Lay.le_set (L := L) (r.rel.unl st.h.n (Nat.le_refl _)) ⟨s.blk, s.base + i * e', e', s.bsz, true⟩
          have hsl : (setRange bc.toList (s.base + i * e' + n * e') cs).length = s.bsz := by rw [setRange_length hfit, hbl]
          have ho' : ObjRel (L.set st.h.n ⟨s.blk, s.base + i * e', e', s.bsz, true⟩) (w.setRow s.blk (setRange bc.toList (s.base + i * e' + n * e') cs).toArray) ⟨s.blk, s.base + i * e', e', s.bsz, true⟩ ⟨ss ++ XS, e', true⟩ := by
            refine ⟨rfl, rfl, by rw [T.size]; exact obr.lt, fun k row hk => (hFD.mono hle).len k row hk, fun k row hk j v hj => ?_, fun _ => ⟨_, ty, fr, hheap, by rw [List.size_toArray]; exact hsl, by rw [List.size_toArray, hsl, ← hbs]; exact hfr.imp id fun h => ⟨he ▸ h.1, h.2⟩⟩⟩
            obtain ⟨V, a1, a2⟩ := (hFD.mono hle).2.2 k row hk j v hj
            refine ⟨V, ?_, a2⟩
            have hdl : ds.length = n * e' := by rw [hD.2.1, hssl]
            unfold World.cell?
            simp only [hheap, Option.isSome_none, Bool.false_eq_true, if_false, List.getElem?_toArray]
            rw [setRange_get hfit]
            by_cases hk1 : k * e' + j < ds.length
            · rw [List.getElem?_append_left hk1] at a1
              rw [if_pos (by omega)]
              have := hdc _ V a1
              unfold World.cell? at this
              simp only [hh, Option.isSome_none, Bool.false_eq_true, if_false] at this
              rw [Array.getElem?_toList]
              rw [show s.base + i * e' + k * e' + j = s.base + i * e' + (k * e' + j) from by omega]; exact this
            · rw [List.getElem?_append_right (by omega)] at a1
              have := (List.getElem?_eq_some_iff.1 a1).1
              rw [if_neg (by omega), if_pos (by omega), show s.base + i * e' + k * e' + j - (s.base + i * e' + n * e') = k * e' + j - ds.length from by omega]; exact a1
          obtain ⟨g1, g2⟩ := r.rehome (s' := ⟨s.blk, s.base + i * e', e', s.bsz, true⟩) (o' := ⟨ss ++ XS, e', true⟩) hob hl hrw rfl rfl T ho'
          refine hn _ _ _ lam (.inr (.of (VRel.slice (s := ⟨s.blk, s.base + i * e', e', s.bsz, true⟩) (if_pos rfl) rfl hr (.inr ?_) (fun _ => ?_) (.inl rfl)))) g2 (List.prefix_refl _) g1
          · rw [hAe]; simp
          · show s.base + i * e' + (0 + C) * e' ≤ s.bsz
            rw [Nat.zero_add]
            rw [Nat.add_mul] at hroom; omega
        · obtain ⟨q, hq, hrun⟩ := grow hr
          rw [hrun, Oper.upon_value]
          -- the old object is dead beside it
          obtain ⟨L', g1, g2, g3⟩ := grown_rel (r.kill l) (e := e) (zc := zv.cells.toList) hFD (by rw [Array.length_toList]; exact zsz) (by rw [hlenS]; exact hq)
          simp only [Array.toArray_toList, hlenS] at g1 g3
          exact hn _ _ L' lam (.inr (.of g1)) ⟨g2.n, g2.lay⟩ (List.prefix_refl _) g3
    · cases happ
end
end Go.Abs
