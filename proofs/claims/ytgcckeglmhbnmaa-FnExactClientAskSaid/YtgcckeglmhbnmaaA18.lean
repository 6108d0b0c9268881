/- The walked order serves for all orders. -/
import Derived.StillTail
import Derived.Test.YtgcckeglmhbnmaaA17
namespace Go.Abs
section
variable {P : Program} {nt : Nat} {ops : Array Oper} {E : Tmp → Bool}

/-- From here on every order comes to stf. -/
def Good (P : Program) (nt : Nat) (ops : Array Oper) (done l : List Stp) (st stf : St) : Prop :=
  ∀ (n0 : Nat) (L0 : Lay) (F R : Nat → Prop) (w0 : World) (m : Nat) (owed : List Stp) (listed : Array Bool) (L : Lay) (lam : List Nat) (a : Act) (w : World), owed.length = m → J P nt ops n0 L0 F R w0 done owed st listed L lam a w →
    ∀ (Q : Exit → Act → World → Prop), (∀ A W L' lam', A.defers = [] → (∀ l, l < n0 → L' l = L0 l) → n0 ≤ stf.h.n → StRel L' F R w0 W lam' nt stf A.tmps → Q .normal A W) → wpAny P .any ops Q (m + l.length) listed a w

theorem reAll_mem {st st' : St} {K : Prop} : ∀ {l : List Stp}, reAll P E ops st st' K l → K ∧ ∀ x ∈ l, reOk P E ops x st st'
  | [], h => ⟨h, fun x hx => by cases hx⟩
  | y :: l, h => ⟨(reAll_mem h.2).1, fun x hx => by
    rcases List.mem_cons.1 hx with rfl | hx
    · exact h.1
    · exact (reAll_mem h.2).2 x hx⟩

theorem kindOk_two {o : Oper} {t : Nat → Value} (h : kindOk E 2 o t = true) : ∃ ty d, o.op = .alloc ty ∧ o.dst = some d ∧ E d = true := by
  have h' : (match o.op, o.dst with
    | .alloc _, some d => E d
    | _, _ => false) = true := h
  split at h'
  · rename_i ty d h1 h2; exact ⟨ty, d, h1, h2, h'⟩
  · cases h'

theorem sched_sound : ∀ (l done : List Stp) (st : St) (K : St → Prop), chk nt ops done l = true → Dn nt ops done → Ord ops done → vcSched P E ops done l st K → ∃ stf, K stf ∧ Good P nt ops done l st stf
  | [], done, st, K, hc, dn, od, h => by
    refine ⟨st, h, fun n0 L0 F R w0 m => ?_⟩
    have all : ∀ i, i < ops.size → ∃ x ∈ done, x.1 = i := fun i hi => by
      rcases chk_all (nt := nt) [] done hc i hi with h | ⟨x, hx, _⟩
      · exact h
      · cases hx
    induction m with
    | zero =>
      intro owed listed L lam a w hm j Q hQ
      obtain rfl := List.eq_nil_of_length_eq_zero hm
      refine ⟨?_, hQ a w L lam j.df j.base j.n (j.rel.reslot fun i => by
        have := j.rel.slots i
        dsimp only at this
        rw [hide_no (fun y hy => by cases hy)] at this; exact this)⟩
      apply List.eq_nil_iff_forall_not_mem.2
      intro i hi
      obtain ⟨h1, h2, _⟩ := (ready_iff j.sz).1 hi
      obtain ⟨x, hx, rfl⟩ := all i h1
      exact h2 (j.li x hx (by simp))
    | succ m ih =>
      intro owed listed L lam a w hm j Q hQ
      obtain ⟨x, hx, hp⟩ := j.someReady done od (fun x hx => hx) (by
        cases owed with
        | nil => cases hm
        | cons x l => exact ⟨x, List.mem_cons_self, j.own x List.mem_cons_self⟩)
      refine ⟨fun h0 => ?_, fun i hi => ?_⟩
      · obtain ⟨o, ho, _⟩ := dn.ex x (j.own x hx)
        have : x.1 ∈ Region.ready .any ops listed := (ready_iff j.sz).2 ⟨(Array.getElem?_eq_some_iff.1 ho).1, j.notListed dn hx, hp⟩
        rw [h0] at this; cases this
      · obtain ⟨h1, h2, h3⟩ := (ready_iff j.sz).1 hi
        obtain ⟨y, hy, rfl⟩ := all i h1
        have hyo : y ∈ owed := Classical.byContradiction fun hn => h2 (j.li y hy hn)
        refine j.late dn hyo h3 fun A W L' lam' j' => ?_
        exact ih _ _ L' lam' A W (by rw [List.length_erase_of_mem hyo, hm]; rfl) j' Q hQ
  | s :: l, done, st, K, hc, dn, od, h => by
    have hcc := hc
    unfold chk at hc
    simp only [Bool.and_eq_true] at hc
    obtain ⟨o, c⟩ := chk1_spec hc.1
    have dn' := dn.cons c
    have od' : Ord ops (s :: done) := ⟨c.pre, od⟩
    unfold vcSched at h
    rw [c.at'] at h
    dsimp only at h
    obtain ⟨q, gi, h⟩ := guard_is h
    have lk : ∀ x ∈ done, ∀ d, o.dst = some d → d ∉ looks ops x.1 := fun x hx d hd => (c.dst d hd x hx).1
    have ld : ∀ x ∈ done, ∀ d, o.dst = some d → dstAt ops x.1 ≠ some d := fun x hx d hd => (c.dst d hd x hx).2
    have only_new : ∀ (v : Value), only (o.looksAt ops) (putD st.t o.dst v) = only (o.looksAt ops) st.t := fun v => funext fun i => by
      by_cases hi : i ∈ o.looksAt ops
      · rw [only_in hi, only_in hi]; exact putD_ne fun e => c.self i e hi
      · unfold only; rw [show (o.looksAt ops).contains i = false from by simpa using hi]; rfl
    have gi' : ∀ v, GuardIs ops o (putD st.t o.dst v) q := fun v => gi.congr fun i hi => putD_ne fun e => c.self i e hi
    -- a step whose turn may come later
    have float : ∀ (v : Value) (h' : AHeap), (h' = st.h ∨ ∃ ob, h' = st.h.push ob) → (∀ n0, n0 ≤ st.h.n → Owes P nt ops n0 s ⟨putD st.t o.dst v, st.S, h'⟩) →
        (∀ n0, ∀ x ∈ done, Owes P nt ops n0 x st → Owes P nt ops n0 x ⟨putD st.t o.dst v, st.S, h'⟩) → (s.2.1 = 2 → ∀ l, v = .pointer (some ⟨l, 0, some 0⟩) → l = st.h.n) →
        vcSched P E ops (s :: done) l ⟨putD st.t o.dst v, st.S, h'⟩ K → ∃ stf, K stf ∧ Good P nt ops done (s :: l) st stf := by
      intro v h' hh hs hx hg hv
      obtain ⟨stf, hK, good⟩ := sched_sound l (s :: done) _ K hc.2 dn' od' hv
      refine ⟨stf, hK, fun n0 L0 F R w0 m owed listed L lam a w hm j Q hQ => ?_⟩
      have := good n0 L0 F R w0 (m + 1) (s :: owed) listed L lam a w (by simp [hm]) (j.push c hh (hs n0 j.n) (fun x hxo => hx n0 x (j.own x hxo) (j.ow x hxo)) hg) Q hQ
      rw [show m + (s :: l).length = m + 1 + l.length by simp; omega]
      exact this
    cases q with
    | false =>
      refine float skipV st.h (.inl rfl) (fun n0 _ => ⟨o, false, c.at', gi' _, fun _ d hd => by show putD _ _ _ d = _; rw [hd]; exact putD_eq, fun e => by cases e⟩)
        (fun n0 x hx ho => ho.next (E := E) (lk x hx) (ld x hx) fun _ => .inl ⟨rfl, rfl⟩) (fun _ l e => by cases e) h
    | true =>
      obtain ⟨hk, h⟩ := bs_false h
      have h1 := vcOp_congr (t' := only (o.looksAt ops) st.t) ev_only (C := fun v S h => reAll P E ops st ⟨putD st.t o.dst v, S, h⟩ (vcSched P E ops (s :: done) l ⟨putD st.t o.dst v, S, h⟩ K) (done.filter fun x => s.2.2.contains x.1)) h
      have dv : ∀ (v : Value) (d : Nat), o.dst = some d → putD st.t o.dst v d = v := fun v d hd => by rw [hd]; exact putD_eq
      by_cases k0 : s.2.1 = 0
      · rw [k0] at hk
        have hp : pureNow o (only (o.looksAt ops) st.t) = true := pureNow_only.trans hk
        obtain ⟨v, hv, sem⟩ := pure_sound (st := ⟨only (o.looksAt ops) st.t, st.S, st.h⟩) hp h1
        have hv := (reAll_mem hv).1
        refine float v st.h (.inl rfl) (fun n0 _ => ⟨o, true, c.at', gi' _, fun e => (by cases e), fun _ => ⟨v, dv v, .inl ⟨k0, ?_⟩⟩⟩)
          (fun n0 x hx ho => ho.next (E := E) (lk x hx) (ld x hx) fun _ => .inl ⟨rfl, rfl⟩) (fun e => by rw [k0] at e; cases e) hv
        dsimp only; rw [only_new]; exact sem
      by_cases k1 : s.2.1 = 1
      · rw [k1] at hk
        have hp : readNow o (only (o.looksAt ops) st.t) = true := readNow_only.trans hk
        obtain ⟨v, hv, sem⟩ := read_sound (nt := nt) (st := ⟨only (o.looksAt ops) st.t, st.S, st.h⟩) hp h1
        have hv := (reAll_mem hv).1
        refine float v st.h (.inl rfl) (fun n0 _ => ⟨o, true, c.at', gi' _, fun e => (by cases e), fun _ => ⟨v, dv v, .inr (.inl ⟨k1, ?_⟩)⟩⟩)
          (fun n0 x hx ho => ho.next (E := E) (lk x hx) (ld x hx) fun _ => .inl ⟨rfl, rfl⟩) (fun e => by rw [k1] at e; cases e) hv
        dsimp only; rw [only_new]; exact sem
      by_cases k2 : s.2.1 = 2
      · rw [k2] at hk
        obtain ⟨t, d, hop, hdst, hk⟩ := kindOk_two hk
        unfold vcOp at h
        rw [hop] at h
        dsimp only at h
        rw [hdst] at h
        dsimp only at h
        rw [hk] at h
        unfold vcAlloc at h
        cases hz : zeroOf P t with
        | none => rw [hz] at h; exact h.elim
        | some z =>
          rw [hz] at h
          obtain ⟨hpl, h⟩ := bs_false h
          unfold vcNew at h
          dsimp only at h
          obtain ⟨hv, hre⟩ := reAll_mem h
          rw [← hdst] at hre hv
          refine float _ _ (.inr ⟨_, rfl⟩) (fun n0 hn0 => ⟨o, true, c.at', gi' _, fun e => (by cases e), fun _ => ⟨_, dv _, .inr (.inr ⟨k2, t, z, st.h.n, d, hop, hdst, hz, hpl, rfl, AHeap.get_push_eq, hn0, Nat.lt_succ_self _⟩)⟩⟩)
            (fun n0 x hx ho => ho.next (E := E) (lk x hx) (ld x hx) fun hk => .inr (hre x (List.mem_filter.2 ⟨hx, c.two k2 x hx hk⟩))) (fun _ l e => by injection e with e; injection e with e; injection e with e; exact e.symm) hv
      -- an operation that may do anything
      obtain ⟨v, st2, hvre, sem⟩ := op_sound (nt := nt) h1
      obtain ⟨t2, S2, h2⟩ := st2
      obtain rfl : t2 = only (o.looksAt ops) st.t := sem.1
      obtain ⟨hv, hre⟩ := reAll_mem hvre
      obtain ⟨stf, hK, good⟩ := sched_sound l (s :: done) _ K hc.2 dn' od' hv
      refine ⟨stf, hK, fun n0 L0 F R w0 m => ?_⟩
      induction m with
      | zero =>
        intro owed listed L lam a w hm j Q hQ
        obtain rfl := List.eq_nil_of_length_eq_zero hm
        have hp : ∀ z, waits ops s.1 z = true → listed.getD z false = true := fun z hz => by
          obtain ⟨y, hy, rfl⟩ := c.pre z hz; exact j.li y hy (by simp)
        have hnl : ¬ listed.getD s.1 false = true := fun hl => by
          obtain ⟨x, hx, _, e⟩ := j.il _ hl; exact c.new x hx e
        rw [show 0 + (s :: l).length = (0 + l.length) + 1 by simp]
        refine ⟨fun h0 => ?_, fun i hi => ?_⟩
        · have : s.1 ∈ Region.ready .any ops listed := (ready_iff j.sz).2 ⟨(Array.getElem?_eq_some_iff.1 c.at').1, hnl, hp⟩
          rw [h0] at this; cases this
        · obtain ⟨i1, i2, i3⟩ := (ready_iff j.sz).1 hi
          have hi' : i = s.1 := by
            rcases chk_all (nt := nt) (s :: l) done hcc i i1 with ⟨x, hx, rfl⟩ | ⟨x, hx, rfl⟩
            · exact absurd (j.li x hx (by simp)) i2
            · rcases List.mem_cons.1 hx with rfl | hx
              · rfl
              · obtain ⟨z, hz, hno⟩ := c.eff k0 k1 k2 x hx
                obtain ⟨y, hy, _, e⟩ := j.il _ (i3 z hz)
                exact absurd e (hno y hy)
          subst hi'
          have see := j.sees dn (ls := o.looksAt ops) (fun y hy => by cases hy)
          unfold wpOp
          simp only [c.at', gi.wanted (L := L) (lam := lam) (a := a) fun d hd => by rw [← only_in (t := st.t) hd]; exact see d, if_true]
          refine .inl (sem.2 L F R w0 w lam a (j.rel.reslot see) j.df _ _ fun V W L' lam' hv' hext hpre hr => ?_)
          exact good n0 L0 F R w0 0 [] _ L' lam' _ W rfl (j.after c hp hv' hext hpre hr fun x hx => by cases hx) Q hQ
      | succ m ih =>
        intro owed listed L lam a w hm j Q hQ
        rw [show m + 1 + (s :: l).length = (m + (s :: l).length) + 1 by omega]
        refine ⟨fun h0 => ?_, fun i hi => ?_⟩
        · obtain ⟨x, hx, hp⟩ := j.someReady done od (fun x hx => hx) (by
            cases owed with
            | nil => cases hm
            | cons x l => exact ⟨x, List.mem_cons_self, j.own x List.mem_cons_self⟩)
          obtain ⟨o2, ho2, _⟩ := dn.ex x (j.own x hx)
          have : x.1 ∈ Region.ready .any ops listed := (ready_iff j.sz).2 ⟨(Array.getElem?_eq_some_iff.1 ho2).1, j.notListed dn hx, hp⟩
          rw [h0] at this; cases this
        · obtain ⟨i1, i2, i3⟩ := (ready_iff j.sz).1 hi
          rcases chk_all (nt := nt) (s :: l) done hcc i i1 with ⟨x, hx, rfl⟩ | ⟨x, hx, rfl⟩
          · have hxo : x ∈ owed := Classical.byContradiction fun hn => i2 (j.li x hx hn)
            refine j.late dn hxo i3 fun A W L' lam' j' => ?_
            exact ih _ _ L' lam' A W (by rw [List.length_erase_of_mem hxo, hm]; rfl) j' Q hQ
          · rcases List.mem_cons.1 hx with rfl | hx
            · have hfree : ∀ y ∈ owed, ∀ d, dstAt ops y.1 = some d → d ∉ o.looksAt ops := fun y hy d hd hmm => j.notListed dn hy (i3 _ (c.dat y (j.own y hy) d hd hmm))
              have see := j.sees dn hfree
              unfold wpOp
              simp only [c.at', gi.wanted (L := L) (lam := lam) (a := a) fun d hd => by rw [← only_in (t := st.t) hd]; exact see d, if_true]
              refine .inl (sem.2 L F R w0 w lam a (j.rel.reslot see) j.df _ _ fun V W L' lam' hv' hext hpre hr => ?_)
              rw [show m + (x :: l).length = (m + 1) + l.length by simp; omega]
              refine good n0 L0 F R w0 (m + 1) owed _ L' lam' _ W hm (j.after c i3 hv' hext hpre hr fun y hy => ?_) Q hQ
              refine (j.ow y hy).next (E := E) (lk y (j.own y hy)) (ld y (j.own y hy)) fun hk => .inr ?_
              rcases c.re k0 k1 k2 y (j.own y hy) hk with h | h
              · exact hre y (List.mem_filter.2 ⟨j.own y hy, h⟩)
              · exfalso
                rcases closure_listed (Lp := fun i => listed.getD i false = true) (fun z x => j.dc z x) done [x.1] (fun z hz x' hx' => by
                  simp at hz; subst hz; exact i3 x' hx') y.1 h with h | h
                · simp at h; exact c.new y (j.own y hy) h
                · exact j.notListed dn hy h
            · exfalso
              obtain ⟨z, hz, hno⟩ := c.eff k0 k1 k2 x hx
              obtain ⟨y, hy, _, e⟩ := j.il _ (i3 z hz)
              exact hno y hy e

/-- What is to be shown of a region whose order is open. -/
def vcDraw (P : Program) (nt : Nat) (E : Tmp → Bool) (ops : Array Oper) (l : List Stp) (st : St) (K : St → Prop) : Prop :=
  bs (chk nt ops [] l) (vcSched P E ops [] l st K) False

theorem draw_sound {id : Nat} {l : List Stp} {st : St} {K : St → Prop} (hm : P.follows .mixedOrders = true) (h : vcDraw P nt E ops l st K) : ∃ st', K st' ∧ CRun P nt (.region id ops true) st .normal st' := by
  obtain ⟨hc, h⟩ := bs_false h
  have dn : Dn nt ops [] := ⟨fun x hx => (by cases hx), fun x hx => (by cases hx), fun x hx => (by cases hx), fun x hx => (by cases hx), fun x hx => (by cases hx)⟩
  obtain ⟨stf, hK, good⟩ := sched_sound l [] st K hc dn trivial h
  refine ⟨stf, hK, fun L F R w0 w lam a r hd => wp_region_any hm ?_⟩
  have r' : StRel L F R w0 { w with drawn := w.drawn + 1 } lam nt st a.tmps := ⟨r.rel.drew _, r.tsz, r.llen, r.lnd, r.lF, r.lrw, r.lblk, r.slots⟩
  have hl := chk_len l [] hc
  have none : ∀ i, ¬ (Array.replicate ops.size false).getD i false = true := fun i h => by
    rw [getD_replicate_false] at h; cases h
  have j0 : J P nt ops st.h.n L F R w0 [] [] st (Array.replicate ops.size false) L lam a { w with drawn := w.drawn + 1 } :=
    ⟨fun x hx => (by cases hx), List.nodup_nil, fun x hx => (by cases hx), fun i hi => absurd hi (none i), by simp, fun z x hz => absurd hz (none z), fun x hx => (by cases hx), fun x hx => (by cases hx), fun x hx => (by cases hx),
     StRel.reslot (t1 := st.t) r' fun i => by rw [hide_no fun y hy => (by cases hy)]; exact r'.slots i, hd, fun _ _ => rfl, Nat.le_refl _⟩
  have := good st.h.n L F R w0 0 [] (Array.replicate ops.size false) L lam a { w with drawn := w.drawn + 1 } rfl j0
    (fun e' A W => e' = Exit.normal ∧ ∃ L' lam', A.defers = [] ∧ Ext L st.h L' stf.h ∧ StRel L' F R w0 W lam' nt stf A.tmps)
    fun A W L' lam' h1 h2 h3 h4 => ⟨rfl, L', lam', h1, ⟨h3, h2⟩, h4⟩
  have e : 0 + l.length = ops.size := by simpa using hl
  rw [e] at this; exact this
end
end Go.Abs
