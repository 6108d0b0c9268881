/- Regions in the text's order, code, functions: what is to be shown, and that it suffices. -/
import Derived.LoopN
import Derived.Test.YtgcckeglmhbnmaaA12
namespace Go.Abs

def dOk (nt : Nat) (dst : Option Tmp) : Bool := match dst with | some d => decide (d < nt) | none => true
theorem dOk_lt {nt : Nat} {dst : Option Tmp} (h : dOk nt dst = true) : ∀ d, dst = some d → d < nt := by
  rintro d rfl; exact of_decide_eq_true h

/-- An operation's guard: is it carried out? A slot that a test has decided holds what it was decided to be. -/
def vcGuard (ops : Array Oper) (o : Oper) (st : St) (k : St → Bool → Prop) : Prop :=
  match o.guard with
  | none => k st true
  | some (j, w) => match (ops[j]?).bind (·.dst) with
    | some d => match st.t d with
      | .bool q => bs q (k { st with t := upd st.t d (.bool true) } (w == true)) (k { st with t := upd st.t d (.bool false) } (w == false))
      | .complex .f64 _ _ => k st false
      | _ => False
    | none => False

def vcOps (P : Program) (nt : Nat) (E : Tmp → Bool) (ops : Array Oper) : List Oper → St → (St → Prop) → Prop
  | [], st, K => K st
  | o :: rest, st, K => vcGuard ops o st fun st w => bs (dOk nt o.dst) (match w with
    | true => vcOp P E o st fun v st' => vcOps P nt E ops rest { st' with t := putD st'.t o.dst v } K
    | false => vcOps P nt E ops rest { st with t := putD st.t o.dst skipV } K) False

section
variable {P : Program} {nt : Nat} {E : Tmp → Bool} {ops : Array Oper}

/-- States that say the same of the slots. -/
theorem StRel.same {L : Lay} {F R : Nat → Prop} {w0 w : World} {lam : List Nat} {st : St} {T : Array Value} (r : StRel L F R w0 w lam nt st T) {t : Nat → Value} (h : ∀ i, t i = st.t i) : StRel L F R w0 w lam nt { st with t := t } T := by
  have : t = st.t := funext h
  subst this; exact r

theorem upd_same {t : Nat → Value} {d : Nat} {v : Value} (h : t d = v) : ∀ i, upd t d v i = t i := by
  intro i
  by_cases e : i = d
  · subst e; simp [upd, h]
  · show (bif i == d then v else t i) = t i
    rw [show (i == d) = false from beq_eq_false_iff_ne.2 e]; rfl

/-- A stretch of a region comes to such a state. -/
def OpsRun (P : Program) (nt : Nat) (ops : Array Oper) (i : Nat) (l : List Oper) (st st' : St) : Prop :=
  ∀ (L : Lay) (F R : Nat → Prop) (w0 w : World) (lam : List Nat) (a : Act), StRel L F R w0 w lam nt st a.tmps → a.defers = [] → ∀ (Q : Exit → Act → World → Prop),
    (∀ A W L' lam', A.defers = [] → Ext L st.h L' st'.h → StRel L' F R w0 W lam' nt st' A.tmps → Q .normal A W) → wpOps P ops Q (List.range' i l.length) a w

theorem put_defers (a : Act) (d : Option Tmp) (v : Value) : (a.put d v).defers = a.defers := by cases d <;> rfl

theorem guard_sound {o : Oper} {st : St} {k : St → Bool → Prop} (h : vcGuard ops o st k) : ∃ t' w, (∀ i, t' i = st.t i) ∧ k { st with t := t' } w ∧ ∀ (L : Lay) (lam : List Nat) (a : Act), Known L lam st.t a.tmps → Region.wanted o (yielded ops a.tmps) = w := by
  unfold vcGuard at h
  split at h
  · rename_i hg
    exact ⟨st.t, true, fun _ => rfl, h, fun L lam a _ => by simp [Region.wanted, hg]⟩
  · rename_i j w hg
    split at h
    case h_2 => exact h.elim
    rename_i d hd
    split at h
    · rename_i q hq
      have key : ∀ (L : Lay) (lam : List Nat) (a : Act), Known L lam st.t a.tmps → Region.wanted o (yielded ops a.tmps) = (w == q) := by
        intro L lam a kn
        have e : a.tmps[d]? = some (.bool q) := by
          rcases kn.slots d with h1 | ⟨X, h1, h2⟩
          · rw [hq] at h1; cases h1
          · rw [hq] at h2; rw [h1, h2.bool]
        simp only [Region.wanted, hg, yielded, hd, Option.bind_some, e]
        cases w <;> cases q <;> rfl
      rcases bs_cases h with ⟨rfl, h⟩ | ⟨rfl, h⟩
      · exact ⟨_, _, upd_same hq, h, key⟩
      · exact ⟨_, _, upd_same hq, h, key⟩
    · rename_i x y hq
      refine ⟨st.t, false, fun _ => rfl, h, fun L lam a kn => ?_⟩
      have e : a.tmps[d]? = some undef := by
        rcases kn.slots d with h1 | ⟨X, h1, h2⟩
        · rw [hq] at h1; cases h1
        · rw [hq] at h2; rw [h1]; exact congrArg some h2
      simp only [Region.wanted, hg, yielded, hd, Option.bind_some, e, undef]
      rfl
    · exact h.elim

theorem ops_sound : ∀ (l : List Oper) (i : Nat) (st : St) (K : St → Prop), (∀ j, l[j]? = ops[i + j]?) → vcOps P nt E ops l st K → ∃ st', K st' ∧ OpsRun P nt ops i l st st'
  | [], i, st, K, _, h => ⟨st, h, fun L F R w0 w lam a r hd Q hQ => hQ a w L lam hd (Ext.refl _ _) r⟩
  | o :: rest, i, st, K, hl, h => by
    unfold vcOps at h
    obtain ⟨t', w, ht, h, hw⟩ := guard_sound h
    obtain ⟨hdst, h⟩ := bs_false h
    have hlt := dOk_lt hdst
    have hi : ops[i]? = some o := by have := hl 0; simpa using this.symm
    have hl' : ∀ j, rest[j]? = ops[i + 1 + j]? := fun j => by have := hl (j + 1); rw [List.getElem?_cons_succ] at this; rw [this]; congr 1; omega
    cases w with
    | true =>
      obtain ⟨v, st1, h, hsem⟩ := op_sound (nt := nt) h
      obtain ⟨st2, hK, hrun⟩ := ops_sound rest (i + 1) _ K hl' h
      refine ⟨st2, hK, fun L F R w0 w lam a r hd Q hQ => ?_⟩
      rw [List.length_cons, List.range'_succ]
      simp only [wpOps, hi, hw L lam a r.known, if_true]
      refine .inl (hsem.2 L F R w0 w lam a (r.same ht) hd _ _ fun V W L' lam' hv hext _ hr => ?_)
      refine hrun L' F R w0 W lam' _ ?_ (by rw [put_defers]; exact hd) Q fun A W' L2 lam2 h1 h2 h3 => hQ A W' L2 lam2 h1 (hext.trans h2) h3
      exact hr.put hlt hv
    | false =>
      obtain ⟨st2, hK, hrun⟩ := ops_sound rest (i + 1) _ K hl' h
      refine ⟨st2, hK, fun L F R w0 w lam a r hd Q hQ => ?_⟩
      rw [List.length_cons, List.range'_succ]
      simp only [wpOps, hi, hw L lam a r.known, Bool.false_eq_true, if_false]
      refine hrun L F R w0 w lam _ ?_ (by rw [put_defers]; exact hd) Q fun A W' L2 lam2 h1 h2 h3 => hQ A W' L2 lam2 h1 h2 h3
      exact (r.same ht).put hlt (.inr rfl)
end

/-- Code comes to such an exit and such a state. -/
def CRun (P : Program) (nt : Nat) (c : Code) (st : St) (e : Exit) (st' : St) : Prop :=
  ∀ (L : Lay) (F R : Nat → Prop) (w0 w : World) (lam : List Nat) (a : Act), StRel L F R w0 w lam nt st a.tmps → a.defers = [] →
    c.wp P (fun e' A W => e' = e ∧ ∃ L' lam', A.defers = [] ∧ Ext L st.h L' st'.h ∧ StRel L' F R w0 W lam' nt st' A.tmps) a w

def Ends (N : St → Prop) (X : Exit → St → Prop) (e : Exit) (st : St) : Prop := match e with | .normal => N st | e => X e st

def CSem (P : Program) (nt : Nat) (c : Code) (st : St) (N : St → Prop) (X : Exit → St → Prop) : Prop := ∃ e st', Ends N X e st' ∧ CRun P nt c st e st'

def inBlk (id : Nat) (N : St → Prop) (X : Exit → St → Prop) (e : Exit) (st : St) : Prop :=
  match e with
  | .exit i => bs (i == id) (N st) (X (.exit i) st)
  | e => X e st

section
variable {P : Program} {nt : Nat}

theorem CRun.seq {x y : Code} {st st1 st2 : St} {e : Exit} (h : CRun P nt x st .normal st1) (k : CRun P nt y st1 e st2) : CRun P nt (.seq x y) st e st2 := by
  intro L F R w0 w lam a r hd
  refine wp_seq (wp_mono (h L F R w0 w lam a r hd) ?_)
  rintro _ A W ⟨rfl, L1, lam1, hA, hx, hr⟩
  refine wp_mono (k L1 F R w0 W lam1 A hr hA) ?_
  rintro e' A' W' ⟨rfl, L2, lam2, h1, h2, h3⟩
  exact ⟨rfl, L2, lam2, h1, hx.trans h2, h3⟩

theorem CRun.seqX {x y : Code} {st st1 : St} {e : Exit} (he : e ≠ .normal) (h : CRun P nt x st e st1) : CRun P nt (.seq x y) st e st1 := by
  intro L F R w0 w lam a r hd
  refine wp_seq (wp_mono (h L F R w0 w lam a r hd) ?_)
  rintro e' A W ⟨rfl, rest⟩
  cases e' <;> first | exact absurd rfl he | exact ⟨rfl, rest⟩

theorem CSem.seq {x y : Code} {st : St} {N : St → Prop} {X : Exit → St → Prop} (h : CSem P nt x st (fun st1 => CSem P nt y st1 N X) X) : CSem P nt (.seq x y) st N X := by
  obtain ⟨e, st1, hE, hr⟩ := h
  by_cases he : e = .normal
  · subst he
    obtain ⟨e2, st2, hE2, hr2⟩ := hE
    exact ⟨e2, st2, hE2, hr.seq hr2⟩
  · refine ⟨e, st1, ?_, hr.seqX he⟩
    cases e <;> first | exact absurd rfl he | exact hE

theorem CSem.mono {c : Code} {st : St} {N N' : St → Prop} {X X' : Exit → St → Prop} (h : CSem P nt c st N X) (hN : ∀ st, N st → N' st) (hX : ∀ e st, X e st → X' e st) : CSem P nt c st N' X' := by
  obtain ⟨e, st', hE, hr⟩ := h
  refine ⟨e, st', ?_, hr⟩
  cases e <;> first | exact hN _ hE | exact hX _ _ hE

theorem CSem.block {id : Nat} {c : Code} {st : St} {N : St → Prop} {X : Exit → St → Prop} (h : CSem P nt c st N (inBlk id N X)) : CSem P nt (.block id c) st N X := by
  obtain ⟨e, st', hE, hr⟩ := h
  have go : ∀ e' : Exit, (e = .exit id → e' = .normal) → (e ≠ .exit id → e' = e) → CRun P nt (.block id c) st e' st' := by
    intro e' h1 h2 L F R w0 w lam a r hd
    refine wp_block (wp_mono (hr L F R w0 w lam a r hd) ?_)
    rintro e0 A W ⟨rfl, rest⟩
    cases e0 <;> try exact ⟨(h2 (by simp)).symm, rest⟩
    rename_i i
    show if i = id then _ else _
    by_cases hi : i = id
    · subst hi
      rw [if_pos rfl]; exact ⟨(h1 rfl).symm, rest⟩
    · rw [if_neg hi]; exact ⟨(h2 (by simpa using hi)).symm, rest⟩
  by_cases he : e = .exit id
  · subst he
    refine ⟨.normal, st', ?_, go .normal (fun _ => rfl) (fun h => absurd rfl h)⟩
    have : bs (id == id) (N st') (X (.exit id) st') := hE
    rw [beq_self_eq_true] at this
    exact this
  · refine ⟨e, st', ?_, go e (fun h => absurd h he) (fun _ => rfl)⟩
    cases e <;> try exact hE
    rename_i i
    have hi : (i == id) = false := by simpa using he
    have : bs (i == id) (N st') (X (.exit i) st') := hE
    rw [hi] at this; exact this

/-- One state says less than another one. -/
structure Sub (s st : St) : Prop where
  t : ∀ i, s.t i = undef ∨ s.t i = st.t i
  S : s.S <+: st.S
  h : s.h = st.h
  loc : ∀ i j c, s.t i = .complex .f32 j c → j < s.S.length

theorem Sub.rel {s st : St} (u : Sub s st) {L : Lay} {F R : Nat → Prop} {w0 w : World} {lam : List Nat} {T : Array Value} (r : StRel L F R w0 w lam nt st T) : StRel L F R w0 w (lam.take s.S.length) nt s T := by
  have hlen : s.S.length ≤ st.S.length := u.S.length_le
  have hsub : ∀ b, b ∈ lam.take s.S.length → b ∈ lam := fun b hb => List.mem_of_mem_take hb
  refine ⟨by rw [u.h]; exact r.rel, r.tsz, by rw [List.length_take, r.llen]; omega, r.lnd.sublist (List.take_sublist _ _), fun b hb => r.lF b (hsub b hb), fun l o q h1 h2 h3 h4 => r.lrw l o q (by rw [← u.h]; exact h1) h2 h3 (hsub _ h4), ?_, ?_⟩
  · intro i b row h1 h2
    obtain ⟨x, hx⟩ := u.S
    refine r.lblk i b row ?_ ?_
    · rw [List.getElem?_take] at h1; split at h1; exact h1; cases h1
    · rw [← hx, List.getElem?_append_left (List.getElem?_eq_some_iff.1 h2).1]; exact h2
  · intro i
    rcases u.t i with h | h
    · exact .inl h
    · rcases r.slots i with k | ⟨X, e, k⟩
      · exact .inl (h.trans k)
      · refine .inr ⟨X, e, ?_⟩
        have hv : s.t i = st.t i := h
        generalize hs : s.t i = v at *
        rw [← hv] at k
        unfold SVRel at k ⊢
        split at k
        · obtain ⟨b, hb, e⟩ := k
          exact ⟨b, by rw [List.getElem?_take, if_pos (u.loc _ _ _ hs)]; exact hb, e⟩
        · exact k
        · exact k

theorem CRun.weak {c : Code} {s st st' : St} {e : Exit} (u : Sub s st) (h : CRun P nt c s e st') : CRun P nt c st e st' := by
  intro L F R w0 w lam a r hd
  refine wp_mono (h L F R w0 w _ a (u.rel r) hd) ?_
  rintro e' A W ⟨he, L', lam', h1, h2, h3⟩
  exact ⟨he, L', lam', h1, by rw [← u.h]; exact h2, h3⟩

theorem CSem.weak {c : Code} {s st : St} {N : St → Prop} {X : Exit → St → Prop} (u : Sub s st) (h : CSem P nt c s N X) : CSem P nt c st N X := let ⟨e, st', a, b⟩ := h; ⟨e, st', a, b.weak u⟩

/-- A number of rounds of a loop comes to such an exit and such a state. -/
def RRun (P : Program) (nt : Nat) (c : Code) (n : Nat) (st : St) (e : Exit) (st' : St) : Prop :=
  ∀ (L : Lay) (F R : Nat → Prop) (w0 w : World) (lam : List Nat) (a : Act), StRel L F R w0 w lam nt st a.tmps → a.defers = [] →
    ∀ Q : Exit → Act → World → Prop, (∀ A W, (∃ L' lam', A.defers = [] ∧ Ext L st.h L' st'.h ∧ StRel L' F R w0 W lam' nt st' A.tmps) → Q e A W) → Code.rounds P c Q n a w

theorem RRun.weak {c : Code} {n : Nat} {s st st' : St} {e : Exit} (u : Sub s st) (h : RRun P nt c n s e st') : RRun P nt c n st e st' := by
  intro L F R w0 w lam a r hd Q hQ
  refine h L F R w0 w _ a (u.rel r) hd Q ?_
  rintro A W ⟨L', lam', h1, h2, h3⟩
  exact hQ A W ⟨L', lam', h1, by rw [← u.h]; exact h2, h3⟩

theorem RRun.next {c : Code} {n : Nat} {st st1 st' : St} {e : Exit} (h : CRun P nt c st .normal st1) (k : RRun P nt c n st1 e st') : RRun P nt c (n + 1) st e st' := by
  intro L F R w0 w lam a r hd Q hQ
  rw [rounds_succ]
  refine wp_mono (h L F R w0 w lam a r hd) ?_
  rintro _ A W ⟨rfl, L1, lam1, hA, hx, hr⟩
  refine k L1 F R w0 W lam1 A hr hA Q ?_
  rintro A' W' ⟨L2, lam2, h1, h2, h3⟩
  exact hQ A' W' ⟨L2, lam2, h1, hx.trans h2, h3⟩

theorem RRun.last {c : Code} {st st1 : St} {e : Exit} (he : e ≠ .normal) (h : CRun P nt c st e st1) : RRun P nt c 1 st e st1 := by
  intro L F R w0 w lam a r hd Q hQ
  rw [rounds_succ]
  refine wp_mono (h L F R w0 w lam a r hd) ?_
  rintro e' A W ⟨rfl, rest⟩
  cases e' <;> first | exact absurd rfl he | exact hQ A W rest

theorem RRun.loop {c : Code} {n : Nat} {st st' : St} {e : Exit} (h : RRun P nt c n st e st') : CRun P nt (.loop c) st e st' :=
  fun L F R w0 w lam a r hd => wp_loop_rounds n (h L F R w0 w lam a r hd _ fun A W h => ⟨rfl, h⟩)

/-- THE RULE FOR LOOPS. -/
theorem loop_at {ι : Type} (head : ι → St) (I : ι → Prop) (μ : ι → Nat) {c : Code} {st : St} {N : St → Prop} {X : Exit → St → Prop} (i0 : ι) (h0 : I i0) (hs : Sub (head i0) st)
    (step : ∀ i, I i → CSem P nt c (head i) (fun st' => ∃ j, I j ∧ μ j < μ i ∧ Sub (head j) st') X) : CSem P nt (.loop c) st N X := by
  have key : ∀ m i, μ i = m → I i → ∃ n e st', e ≠ .normal ∧ X e st' ∧ RRun P nt c n (head i) e st' := by
    intro m
    induction m using Nat.strongRecOn with
    | _ m ih =>
      intro i hm hI
      obtain ⟨e, st1, hE, hr⟩ := step i hI
      by_cases he : e = .normal
      · subst he
        obtain ⟨j, hj, hlt, hsub⟩ := hE
        obtain ⟨n, e, st', h1, h2, h3⟩ := ih (μ j) (by omega) j rfl hj
        exact ⟨n + 1, e, st', h1, h2, .next hr (h3.weak hsub)⟩
      · refine ⟨1, e, st1, he, ?_, .last he hr⟩
        cases e <;> first | exact absurd rfl he | exact hE
  obtain ⟨n, e, st', h1, h2, h3⟩ := key _ i0 rfl h0
  refine ⟨e, st', ?_, (h3.weak hs).loop⟩
  cases e <;> first | exact absurd rfl h1 | exact h2
end
end Go.Abs
