/- Regions whose order Go leaves open: one order is walked, with what else could come before; it serves for all orders. -/
import Derived.Test.YtgcckeglmhbnmaaA14
namespace Go.Abs

/-- A step of the walked order: the operation, its kind (0 slots alone, 1 reads, 2 a new object, 3 anything), the earlier ones that may come later. -/
abbrev Stp := Nat × Nat × List Nat

def waits (ops : Array Oper) (j i : Nat) : Bool := match ops[j]? with | some o => o.after.any fun e => Region.binds .any e && e.on == i | none => false
def looks (ops : Array Oper) (i : Nat) : List Tmp := match ops[i]? with | some o => o.looksAt ops | none => []
def dstAt (ops : Array Oper) (i : Nat) : Option Tmp := match ops[i]? with | some o => o.dst | none => none
def only (ls : List Nat) (t : Nat → Value) : Nat → Value := fun i => bif ls.contains i then t i else undef
def hide (ops : Array Oper) (owed : List Stp) (t : Nat → Value) : Nat → Value := fun i => bif owed.any (fun x => dstAt ops x.1 == some i) then undef else t i
def closure (ops : Array Oper) : List Stp → List Nat → List Nat
  | [], set => set
  | x :: d, set => closure ops d (bif set.any (fun z => waits ops z x.1) then x.1 :: set else set)

/-- The check of one step: 'done' lists what was walked, the last one first. -/
def chk1 (nt : Nat) (ops : Array Oper) (done : List Stp) (s : Stp) (rest : List Stp) : Bool :=
  match ops[s.1]? with
  | none => false
  | some o => dOk nt o.dst && !(done.any fun x => x.1 == s.1) && (o.after.all fun e => !Region.binds .any e || done.any fun x => x.1 == e.on) &&
      (match o.dst with
       | some d => !(o.looksAt ops).contains d && done.all fun x => !(looks ops x.1).contains d && dstAt ops x.1 != some d
       | none => true) &&
      (done.all fun x => match dstAt ops x.1 with
       | some d => !(o.looksAt ops).contains d || waits ops s.1 x.1
       | none => true) &&
      (match s.2.1 with
       | 0 => true
       | 1 => true
       | 2 => done.all fun x => (x.2.1 != 1 && x.2.1 != 2) || s.2.2.contains x.1
       | _ => (rest.all fun r => match ops[r.1]? with
                | some q => q.after.any fun e => Region.binds .any e && !(done.any fun x => x.1 == e.on)
                | none => false) &&
              done.all fun x => (x.2.1 != 1 && x.2.1 != 2) || s.2.2.contains x.1 || (closure ops done [s.1]).contains x.1)

def chk (nt : Nat) (ops : Array Oper) : List Stp → List Stp → Bool
  | done, [] => done.length == ops.size && (List.range ops.size).all fun i => done.any fun x => x.1 == i
  | done, s :: rest => chk1 nt ops done s rest && chk nt ops (s :: done) rest

def kindOk (E : Tmp → Bool) (k : Nat) (o : Oper) (t : Nat → Value) : Bool :=
  match k with
  | 0 => pureNow o t
  | 1 => readNow o t
  | 2 => match o.op, o.dst with
    | .alloc _, some d => E d
    | _, _ => false
  | _ => true

/-- What an earlier step has told still holds. -/
def reOk (P : Program) (E : Tmp → Bool) (ops : Array Oper) (x : Stp) (st st' : St) : Prop :=
  match ops[x.1]? with
  | none => True
  | some o => vcGuard ops o st' fun _ w => match w with
    | false => True
    | true => match x.2.1 with
      | 1 => bs (readNow o st'.t) (vcOp P E o st' fun v _ => match o.dst with
        | some d => v = st'.t d
        | none => True) False
      | 2 => match o.dst with
        | some d => match st'.t d with
          | .pointer (some ⟨l, _, _⟩) => st'.h.get l = st.h.get l ∧ st.h.n ≤ st'.h.n
          | _ => False
        | none => False
      | _ => True

def reAll (P : Program) (E : Tmp → Bool) (ops : Array Oper) (st st' : St) (K : Prop) : List Stp → Prop
  | [] => K
  | x :: l => reOk P E ops x st st' ∧ reAll P E ops st st' K l

def vcSched (P : Program) (E : Tmp → Bool) (ops : Array Oper) : List Stp → List Stp → St → (St → Prop) → Prop
  | _, [], st, K => K st
  | done, s :: rest, st, K => match ops[s.1]? with
    | none => False
    | some o => vcGuard ops o st fun st w => match w with
      | false => vcSched P E ops (s :: done) rest ⟨putD st.t o.dst skipV, st.S, st.h⟩ K
      | true => bs (kindOk E s.2.1 o st.t) (vcOp P E o st fun v st' =>
          reAll P E ops st ⟨putD st.t o.dst v, st'.S, st'.h⟩ (vcSched P E ops (s :: done) rest ⟨putD st.t o.dst v, st'.S, st'.h⟩ K) (done.filter fun x => s.2.2.contains x.1)) False

section
variable {P : Program} {nt : Nat} {ops : Array Oper} {E : Tmp → Bool}

theorem waits_iff {j i : Nat} : waits ops j i = true ↔ ∃ o, ops[j]? = some o ∧ ∃ e ∈ o.after, Region.binds .any e = true ∧ e.on = i := by
  unfold waits
  cases ho : ops[j]? with
  | some o =>
    dsimp only
    rw [Array.any_eq_true']
    constructor
    · rintro ⟨e, he, h⟩
      simp only [Bool.and_eq_true, beq_iff_eq] at h
      exact ⟨o, rfl, e, he, h⟩
    · rintro ⟨o', h1, e, he, h⟩
      obtain rfl := Option.some.inj h1
      exact ⟨e, he, by simp only [Bool.and_eq_true, beq_iff_eq]; exact h⟩
  | none => simp

/-- What is known of the steps walked. -/
structure Dn (nt : Nat) (ops : Array Oper) (done : List Stp) : Prop where
  ex : ∀ x ∈ done, ∃ o, ops[x.1]? = some o ∧ dOk nt o.dst = true ∧ ∀ d, o.dst = some d → d ∉ o.looksAt ops
  inj : ∀ x ∈ done, ∀ y ∈ done, x.1 = y.1 → x = y
  pre : ∀ x ∈ done, ∀ z, waits ops x.1 z = true → ∃ y ∈ done, y.1 = z
  dat : ∀ x ∈ done, ∀ y ∈ done, x.1 ≠ y.1 → ∀ d, dstAt ops x.1 = some d → d ∈ looks ops y.1 → waits ops y.1 x.1 = true
  dst : ∀ x ∈ done, ∀ y ∈ done, x.1 ≠ y.1 → ∀ d, dstAt ops x.1 = some d → dstAt ops y.1 ≠ some d

def Ord (ops : Array Oper) : List Stp → Prop
  | [] => True
  | s :: d => (∀ z, waits ops s.1 z = true → ∃ y ∈ d, y.1 = z) ∧ Ord ops d

structure Chk1 (nt : Nat) (ops : Array Oper) (done : List Stp) (s : Stp) (rest : List Stp) (o : Oper) : Prop where
  at' : ops[s.1]? = some o
  d : dOk nt o.dst = true
  new : ∀ x ∈ done, x.1 ≠ s.1
  pre : ∀ z, waits ops s.1 z = true → ∃ y ∈ done, y.1 = z
  self : ∀ d, o.dst = some d → d ∉ o.looksAt ops
  dst : ∀ d, o.dst = some d → ∀ x ∈ done, d ∉ looks ops x.1 ∧ dstAt ops x.1 ≠ some d
  dat : ∀ x ∈ done, ∀ d, dstAt ops x.1 = some d → d ∈ o.looksAt ops → waits ops s.1 x.1 = true
  two : s.2.1 = 2 → ∀ x ∈ done, (x.2.1 = 1 ∨ x.2.1 = 2) → s.2.2.contains x.1 = true
  eff : s.2.1 ≠ 0 → s.2.1 ≠ 1 → s.2.1 ≠ 2 → ∀ r ∈ rest, ∃ z, waits ops r.1 z = true ∧ ∀ x ∈ done, x.1 ≠ z
  re : s.2.1 ≠ 0 → s.2.1 ≠ 1 → s.2.1 ≠ 2 → ∀ x ∈ done, (x.2.1 = 1 ∨ x.2.1 = 2) → s.2.2.contains x.1 = true ∨ x.1 ∈ closure ops done [s.1]

theorem chk1_spec {done : List Stp} {s : Stp} {rest : List Stp} (h : chk1 nt ops done s rest = true) : ∃ o, Chk1 nt ops done s rest o := by
  unfold chk1 at h
  split at h
  · cases h
  rename_i o ho
  simp only [Bool.and_eq_true] at h
  obtain ⟨⟨⟨⟨⟨h1, h2⟩, h3⟩, h4⟩, h5⟩, h6⟩ := h
  have h2' : ∀ x ∈ done, x.1 ≠ s.1 := fun x hx e => by
    simp only [Bool.not_eq_true', List.any_eq_false] at h2
    exact h2 x hx (by simpa using e)
  have h3' : ∀ z, waits ops s.1 z = true → ∃ y ∈ done, y.1 = z := fun z hz => by
    obtain ⟨o', ho', e, he, hb, hon⟩ := waits_iff.1 hz
    obtain rfl := Option.some.inj (ho.symm.trans ho')
    have := Array.all_eq_true_iff_forall_mem.1 h3 e he
    rw [hb] at this
    simp only [Bool.not_true, Bool.false_or, List.any_eq_true, beq_iff_eq] at this
    obtain ⟨y, hy, hyz⟩ := this
    exact ⟨y, hy, hyz.trans hon⟩
  have h4' : ∀ d, o.dst = some d → d ∉ o.looksAt ops ∧ ∀ x ∈ done, d ∉ looks ops x.1 ∧ dstAt ops x.1 ≠ some d := fun d hd => by
    rw [hd] at h4
    simp only [Bool.and_eq_true, Bool.not_eq_true', List.all_eq_true, bne_iff_ne, ne_eq] at h4
    refine ⟨fun hm => ?_, fun x hx => ⟨fun hm => ?_, (h4.2 x hx).2⟩⟩
    · have := h4.1; rw [List.contains_iff_mem.2 hm] at this; cases this
    · have := (h4.2 x hx).1; rw [List.contains_iff_mem.2 hm] at this; cases this
  have h5' : ∀ x ∈ done, ∀ d, dstAt ops x.1 = some d → d ∈ o.looksAt ops → waits ops s.1 x.1 = true := fun x hx d hd hm => by
    have := List.all_eq_true.1 h5 x hx
    rw [hd] at this
    simp only [Bool.or_eq_true, Bool.not_eq_true'] at this
    rcases this with h | h
    · rw [List.contains_iff_mem.2 hm] at h; cases h
    · exact h
  have kind : ∀ {k : Nat} {c r : Bool}, ((k != 1 && k != 2) || c || r) = true → (k = 1 ∨ k = 2) → c = true ∨ r = true := fun h hk => by
    simp only [Bool.or_eq_true, Bool.and_eq_true, bne_iff_ne, ne_eq] at h
    rcases h with (h | h) | h
    · rcases hk with e | e
      · exact absurd e h.1
      · exact absurd e h.2
    · exact .inl h
    · exact .inr h
  refine ⟨o, ho, h1, h2', h3', fun d hd => (h4' d hd).1, fun d hd => (h4' d hd).2, h5', ?_, ?_, ?_⟩
  · intro hk x hx hxk
    rw [hk] at h6
    have := List.all_eq_true.1 h6 x hx
    rcases kind (r := false) (by rw [Bool.or_false]; exact this) hxk with h | h
    · exact h
    · cases h
  · intro k0 k1 k2 r hr
    split at h6
    · rename_i e; exact absurd e k0
    · rename_i e; exact absurd e k1
    · rename_i e; exact absurd e k2
    simp only [Bool.and_eq_true] at h6
    have := List.all_eq_true.1 h6.1 r hr
    split at this
    · rename_i q hq
      obtain ⟨e, he, hb⟩ := Array.any_eq_true'.1 this
      simp only [Bool.and_eq_true, Bool.not_eq_true', List.any_eq_false, beq_iff_eq] at hb
      exact ⟨e.on, waits_iff.2 ⟨q, hq, e, he, hb.1, rfl⟩, fun x hx => hb.2 x hx⟩
    · cases this
  · intro k0 k1 k2 x hx hxk
    split at h6
    · rename_i e; exact absurd e k0
    · rename_i e; exact absurd e k1
    · rename_i e; exact absurd e k2
    simp only [Bool.and_eq_true] at h6
    rcases kind (List.all_eq_true.1 h6.2 x hx) hxk with h | h
    · exact .inl h
    · exact .inr (List.contains_iff_mem.1 h)

theorem looks_eq {i : Nat} {o : Oper} (h : ops[i]? = some o) : looks ops i = o.looksAt ops := by unfold looks; rw [h]
theorem dstAt_eq {i : Nat} {o : Oper} (h : ops[i]? = some o) : dstAt ops i = o.dst := by unfold dstAt; rw [h]

theorem Dn.cons  {done : List Stp} {s : Stp} {rest : List Stp} {o : Oper} (h : Dn nt ops done) (c : Chk1 nt ops done s rest o) : Dn nt ops (s :: done) := by
  refine ⟨?_, ?_, ?_, ?_, ?_⟩
  · intro x hx
    rcases List.mem_cons.1 hx with rfl | hx
    · exact ⟨o, c.at', c.d, c.self⟩
    · exact h.ex x hx
  · intro x hx y hy e
    rcases List.mem_cons.1 hx with e1 | hx' <;> rcases List.mem_cons.1 hy with e2 | hy'
    · rw [e1, e2]
    · rw [e1] at e; exact absurd e.symm (c.new y hy')
    · rw [e2] at e; exact absurd e (c.new x hx')
    · exact h.inj x hx' y hy' e
  · intro x hx z hz
    rcases List.mem_cons.1 hx with rfl | hx
    · obtain ⟨y, hy, e⟩ := c.pre z hz; exact ⟨y, List.mem_cons_of_mem _ hy, e⟩
    · obtain ⟨y, hy, e⟩ := h.pre x hx z hz; exact ⟨y, List.mem_cons_of_mem _ hy, e⟩
  · intro x hx y hy ne d hd hm
    rcases List.mem_cons.1 hx with e1 | hx' <;> rcases List.mem_cons.1 hy with e2 | hy'
    · rw [e1, e2] at ne; exact absurd rfl ne
    · rw [e1, dstAt_eq c.at'] at hd; exact absurd hm (c.dst d hd y hy').1
    · rw [e2, looks_eq c.at'] at hm; rw [e2]; exact c.dat x hx' d hd hm
    · exact h.dat x hx' y hy' ne d hd hm
  · intro x hx y hy ne d hd
    rcases List.mem_cons.1 hx with e1 | hx' <;> rcases List.mem_cons.1 hy with e2 | hy'
    · rw [e1, e2] at ne; exact absurd rfl ne
    · rw [e1, dstAt_eq c.at'] at hd; exact (c.dst d hd y hy').2
    · rw [e2, dstAt_eq c.at']; intro hd'; exact (c.dst d hd' x hx').2 hd
    · exact h.dst x hx' y hy' ne d hd

theorem closure_listed {Lp : Nat → Prop} (hd : ∀ z x, Lp z → waits ops z x = true → Lp x) : ∀ (d : List Stp) (set : List Nat), (∀ z ∈ set, ∀ x, waits ops z x = true → Lp x) → ∀ z ∈ closure ops d set, z ∈ set ∨ Lp z
  | [], set, _, z, hz => .inl hz
  | x :: d, set, hs, z, hz => by
    unfold closure at hz
    cases e : set.any (fun z => waits ops z x.1) with
    | false => rw [e] at hz; exact closure_listed hd d set hs z hz
    | true =>
      rw [e] at hz
      obtain ⟨y, hy, hw⟩ := List.any_eq_true.1 e
      have hx : Lp x.1 := hs y hy _ hw
      rcases closure_listed hd d (x.1 :: set) (fun z hz => by
        rcases List.mem_cons.1 hz with rfl | hz
        · exact fun x' hx' => hd _ _ hx hx'
        · exact hs z hz) z hz with h | h
      · rcases List.mem_cons.1 h with rfl | h
        · exact .inr hx
        · exact .inl h
      · exact .inr h
end
end Go.Abs
