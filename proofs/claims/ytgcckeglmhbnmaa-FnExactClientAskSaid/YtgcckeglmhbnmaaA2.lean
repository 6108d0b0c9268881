/- The state of a function at work: slots, locals, an abstract heap; what it means that an operation does so and so. -/
import Derived.Test.YtgcckeglmhbnmaaA1
namespace Go.Abs

/-- Slots, locals (a row of values each), the heap. A local's address is written '.complex .f32 i c': local i, cell c. -/
structure St where
  t : Nat → Value
  S : List (List Value)
  h : AHeap

def upd (t : Nat → Value) (d : Nat) (v : Value) : Nat → Value := fun x => bif x == d then v else t x
def putD (t : Nat → Value) (dst : Option Tmp) (v : Value) : Nat → Value := match dst with | some d => upd t d v | none => t
def lptr (i c : Nat) : Value := .complex .f32 i c

def SVRel (L : Lay) (lam : List Nat) (v V : Value) : Prop :=
  match v with
  | .complex .f32 i c => ∃ b, lam[i]? = some b ∧ V = .pointer (some ⟨b, c, none⟩)
  | .complex .f64 _ _ => V = undef
  | v => VRel L v V

/-- What an operation that is not carried out leaves. -/
def skipV : Value := .complex .f64 0 0

theorem SVRel.of {L : Lay} {lam : List Nat} {v V : Value} (h : VRel L v V) : SVRel L lam v V := by
  cases h <;> (unfold SVRel; constructor <;> assumption)

/-- What a slot holds, if it is known. -/
def SlotRel (L : Lay) (lam : List Nat) (v : Value) (V : Option Value) : Prop := v = undef ∨ ∃ X, V = some X ∧ SVRel L lam v X

structure StRel (L : Lay) (F R : Nat → Prop) (w0 w : World) (lam : List Nat) (nt : Nat) (st : St) (T : Array Value) : Prop where
  rel : Rel L F R w0 w st.h
  tsz : T.size = nt
  llen : lam.length = st.S.length
  lnd : lam.Nodup
  lF : ∀ b, b ∈ lam → ¬ F b
  lrw : ∀ l o s, st.h.get l = some o → L l = some s → o.rw = true → s.blk ∉ lam
  lblk : ∀ (i b : Nat) (row : List Value), lam[i]? = some b → st.S[i]? = some row → ∃ (cs : Array Value) (ty : TypeId), w.heap[b]? = some (Obj.cells cs ty (0, 0)) ∧ cs.size = row.length ∧
    ∀ (j : Nat) (v : Value), row[j]? = some v → ∃ V, cs[j]? = some V ∧ VRel L v V
  slots : ∀ i, SlotRel L lam (st.t i) T[i]?

theorem SVRel.mono {L L' : Lay} (hl : L.le L') {lam lam' : List Nat} (hp : lam <+: lam') {v V : Value} (h : SVRel L lam v V) : SVRel L' lam' v V := by
  unfold SVRel at *
  split at h
  · obtain ⟨b, hb, e⟩ := h
    obtain ⟨x, rfl⟩ := hp
    exact ⟨b, by rw [List.getElem?_append_left (List.getElem?_eq_some_iff.1 hb).1]; exact hb, e⟩
  · exact h
  · exact VRel.mono hl h

theorem SlotRel.mono {L L' : Lay} (hl : L.le L') {lam lam' : List Nat} (hp : lam <+: lam') {v : Value} {V : Option Value} (h : SlotRel L lam v V) : SlotRel L' lam' v V :=
  h.imp id fun ⟨X, e, r⟩ => ⟨X, e, r.mono hl hp⟩

theorem StRel.put {L : Lay} {F R : Nat → Prop} {w0 w : World} {lam : List Nat} {nt : Nat} {st : St} {a : Act} (h : StRel L F R w0 w lam nt st a.tmps) {dst : Option Tmp} {v V : Value}
    (hd : ∀ d, dst = some d → d < nt) (hv : v = undef ∨ SVRel L lam v V) : StRel L F R w0 w lam nt { st with t := putD st.t dst v } (a.put dst V).tmps := by
  cases dst with
  | none => exact ⟨h.rel, h.tsz, h.llen, h.lnd, h.lF, h.lrw, h.lblk, h.slots⟩
  | some d =>
    have hlt := hd d rfl
    refine ⟨h.rel, by simp [Act.put, h.tsz], h.llen, h.lnd, h.lF, h.lrw, h.lblk, fun i => ?_⟩
    show SlotRel L lam (upd st.t d v i) (a.tmps.setIfInBounds d V)[i]?
    unfold upd
    by_cases e : i = d
    · subst e
      simp only [beq_self_eq_true, cond_true]
      rcases hv with rfl | hv
      · exact .inl rfl
      · exact .inr ⟨V, by rw [Array.getElem?_setIfInBounds_self, if_pos (by rw [h.tsz]; exact hlt)], hv⟩
    · rw [show (i == d) = false from beq_eq_false_iff_ne.2 e]
      simp only [cond_false]
      rw [Array.getElem?_setIfInBounds_ne (Ne.symm e)]
      exact h.slots i

/-- Values that stand for themselves. -/
def plainLeaf : Value → Bool
  | .bool _ | .int _ _ | .string _ | .pointer none | .nilFunc | .nilIface => true
  | .slice none n c => n == 0 && c == 0
  | _ => false
def plain : Value → Bool
  | .agg cs => cs.toList.all plainLeaf
  | v => plainLeaf v

theorem VRel.plainLeaf {L : Lay} {v : Value} (h : plainLeaf v = true) : VRel L v v := by
  unfold Abs.plainLeaf at h
  split at h <;> first | constructor | skip
  · rename_i n c
    simp at h; obtain ⟨rfl, rfl⟩ := h; exact .sliceN
  · cases h

theorem VRel.plain {L : Lay} {v : Value} (h : plain v = true) : VRel L v v := by
  unfold Abs.plain at h
  split at h
  · rename_i cs
    refine .agg rfl fun i v V h1 h2 => ?_
    obtain rfl := Option.some.inj (h1.symm.trans h2)
    have := List.all_eq_true.1 h v (Array.mem_toList_iff.2 (Array.mem_of_getElem? h1))
    exact .plainLeaf this
  · exact .plainLeaf h

def ev (t : Nat → Value) : Operand → Value
  | .tmp i => t i
  | .const v => bif plain v then v else undef
  | .global _ => undef
  | .func f => .func (.func f) #[] #[]

/-- What is known of the slots. -/
structure Known (L : Lay) (lam : List Nat) (t : Nat → Value) (T : Array Value) : Prop where
  slots : ∀ i, SlotRel L lam (t i) T[i]?

theorem undef_ne_slot {L : Lay} {lam : List Nat} {v V : Value} (h : SlotRel L lam v (some V)) (hv : v ≠ undef) : SVRel L lam v V := by
  rcases h with h | ⟨X, e, r⟩
  · exact absurd h hv
  · obtain rfl := Option.some.inj e; exact r

theorem Known.ev {L : Lay} {lam : List Nat} {t : Nat → Value} {a : Act} (k : Known L lam t a.tmps) (x : Operand) : Abs.ev t x = undef ∨ SVRel L lam (Abs.ev t x) (a.eval x) := by
  cases x with
  | tmp i =>
    rcases k.slots i with h | ⟨X, e, r⟩
    · exact .inl h
    · right
      show SVRel L lam (t i) (a.tmps.getD i undef)
      rw [Array.getD_eq_getD_getElem?, e]; exact r
  | const v =>
    show (bif plain v then v else undef) = undef ∨ SVRel L lam (bif plain v then v else undef) v
    cases h : plain v with
    | true => right; exact .of (.plain h)
    | false => left; rfl
  | global g => exact .inl rfl
  | func f => right; exact .of (.fn _ rfl (fun i v V h1 _ => by simp at h1) rfl (fun i v V h1 _ => by simp at h1))

theorem StRel.known {L : Lay} {F R : Nat → Prop} {w0 w : World} {lam : List Nat} {nt : Nat} {st : St} {T : Array Value} (h : StRel L F R w0 w lam nt st T) : Known L lam st.t T := ⟨h.slots⟩

/-- AN OPERATION DOES SO AND SO: from each state of the model that fits it comes to v and to one that fits st'. -/
def OpSem (P : Program) (nt : Nat) (o : Oper) (st : St) (v : Value) (st' : St) : Prop :=
  st'.t = st.t ∧ ∀ (L : Lay) (F R : Nat → Prop) (w0 w : World) (lam : List Nat) (a : Act), StRel L F R w0 w lam nt st a.tmps → a.defers = [] →
    ∀ (next : Act → World → Prop) (Q : Exit → Act → World → Prop),
      (∀ V W L' lam', (v = undef ∨ SVRel L' lam' v V) → Ext L st.h L' st'.h → lam <+: lam' → StRel L' F R w0 W lam' nt st' a.tmps → next (a.put o.dst V) W) → o.wp P a w next Q

/-- An operation that looks at slots alone. -/
theorem OpSem.pure {P : Program} {nt : Nat} {o : Oper} {st : St} {v : Value}
    (h : ∀ (L : Lay) (lam : List Nat) (a : Act), Known L lam st.t a.tmps → ∃ V, (v = undef ∨ SVRel L lam v V) ∧ ∀ w, (execOp a.eval o).run P w = .ok (.value V) w) : OpSem P nt o st v st := by
  refine ⟨rfl, fun L F R w0 w lam a r _ next Q hn => ?_⟩
  obtain ⟨V, hv, he⟩ := h L lam a r.known
  unfold Oper.wp
  rw [he w, Oper.upon_value]
  exact hn V w L lam hv (Ext.refl _ _) (List.prefix_refl _) r

/-- What an operation that looks at slots alone yields, in whatever world. -/
def PSem (P : Program) (o : Oper) (t : Nat → Value) (v : Value) : Prop :=
  ∀ (L : Lay) (lam : List Nat) (a : Act), Known L lam t a.tmps → ∃ V, (v = undef ∨ SVRel L lam v V) ∧ ∀ w, (execOp a.eval o).run P w = .ok (.value V) w
theorem PSem.pure {P : Program} {o : Oper} {t : Nat → Value} {v : Value} (h : ∀ (L : Lay) (lam : List Nat) (a : Act), Known L lam t a.tmps → ∃ V, (v = undef ∨ SVRel L lam v V) ∧ ∀ w, (execOp a.eval o).run P w = .ok (.value V) w) : PSem P o t v := h
theorem PSem.op {P : Program} {nt : Nat} {o : Oper} {st : St} {v : Value} (h : PSem P o st.t v) : OpSem P nt o st v st := OpSem.pure h

/-- An operation that reads the heap, too. -/
theorem OpSem.reads {P : Program} {nt : Nat} {o : Oper} {st : St} {v : Value}
    (h : ∀ (L : Lay) (F R : Nat → Prop) (w0 w : World) (lam : List Nat) (a : Act), StRel L F R w0 w lam nt st a.tmps → ∃ V, (v = undef ∨ SVRel L lam v V) ∧ (execOp a.eval o).run P w = .ok (.value V) w) : OpSem P nt o st v st := by
  refine ⟨rfl, fun L F R w0 w lam a r _ next Q hn => ?_⟩
  obtain ⟨V, hv, he⟩ := h L F R w0 w lam a r
  unfold Oper.wp
  rw [he, Oper.upon_value]
  exact hn V w L lam hv (Ext.refl _ _) (List.prefix_refl _) r

/-- Inversions of SVRel at the forms that operations ask for. -/
theorem SVRel.int {L : Lay} {lam : List Nat} {k : IntKind} {n : Int} {V : Value} (h : SVRel L lam (.int k n) V) : V = .int k n := by cases (h : VRel L _ _); rfl
theorem SVRel.bool {L : Lay} {lam : List Nat} {b : Bool} {V : Value} (h : SVRel L lam (.bool b) V) : V = .bool b := by cases (h : VRel L _ _); rfl
theorem SVRel.string {L : Lay} {lam : List Nat} {s : ByteArray} {V : Value} (h : SVRel L lam (.string s) V) : V = .string s := by cases (h : VRel L _ _); rfl
theorem SVRel.agg {L : Lay} {lam : List Nat} {cs : Array Value} {V : Value} (h : SVRel L lam (.agg cs) V) : ∃ ds, V = .agg ds ∧ ARel L cs ds := by
  cases (h : VRel L _ _) with | agg hs hv => exact ⟨_, rfl, hs, hv⟩
theorem SVRel.tuple {L : Lay} {lam : List Nat} {cs : Array Value} {V : Value} (h : SVRel L lam (.tuple cs) V) : ∃ ds, V = .tuple ds ∧ ARel L cs ds := by
  cases (h : VRel L _ _) with | tuple hs hv => exact ⟨_, rfl, hs, hv⟩
theorem SVRel.lptr {L : Lay} {lam : List Nat} {i c : Nat} {V : Value} (h : SVRel L lam (.complex .f32 i c) V) : ∃ b, lam[i]? = some b ∧ V = .pointer (some ⟨b, c, none⟩) := h
theorem SVRel.ptr {L : Lay} {lam : List Nat} {l r c : Nat} {V : Value} (h : SVRel L lam (.pointer (some ⟨l, r, some c⟩)) V) : ∃ s, L l = some s ∧ V = .pointer (some ⟨s.blk, s.base + r * s.esz + c, none⟩) := by
  cases (h : VRel L _ _) with | ptr h => exact ⟨_, h, rfl⟩
theorem SVRel.ptrN {L : Lay} {lam : List Nat} {V : Value} (h : SVRel L lam (.pointer none) V) : V = .pointer none := by cases (h : VRel L _ _); rfl

theorem Known.int {L : Lay} {lam : List Nat} {t : Nat → Value} {a : Act} (k : Known L lam t a.tmps) {x : Operand} {q : IntKind} {n : Int} (h : Abs.ev t x = .int q n) : a.eval x = .int q n := by
  rcases k.ev x with e | e
  · rw [h] at e; cases e
  · rw [h] at e; exact e.int
theorem Known.bool {L : Lay} {lam : List Nat} {t : Nat → Value} {a : Act} (k : Known L lam t a.tmps) {x : Operand} {b : Bool} (h : Abs.ev t x = .bool b) : a.eval x = .bool b := by
  rcases k.ev x with e | e
  · rw [h] at e; cases e
  · rw [h] at e; exact e.bool
theorem Known.string {L : Lay} {lam : List Nat} {t : Nat → Value} {a : Act} (k : Known L lam t a.tmps) {x : Operand} {s : ByteArray} (h : Abs.ev t x = .string s) : a.eval x = .string s := by
  rcases k.ev x with e | e
  · rw [h] at e; cases e
  · rw [h] at e; exact e.string
theorem Known.of {L : Lay} {lam : List Nat} {t : Nat → Value} {a : Act} (k : Known L lam t a.tmps) {x : Operand} {v : Value} (h : Abs.ev t x = v) (hv : v ≠ undef) : SVRel L lam v (a.eval x) := by
  rcases k.ev x with e | e
  · exact absurd (h.symm.trans e) hv
  · rw [h] at e; exact e

end Go.Abs
