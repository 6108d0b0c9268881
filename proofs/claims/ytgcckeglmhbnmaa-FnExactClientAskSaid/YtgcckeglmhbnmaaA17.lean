/- All orders of a region come to what the walked order comes to. -/
import Derived.Test.YtgcckeglmhbnmaaA16
namespace Go.Abs
section
variable {P : Program} {nt : Nat} {ops : Array Oper} {E : Tmp → Bool} {n0 : Nat} {L0 : Lay} {F R : Nat → Prop} {w0 : World} {done owed : List Stp} {st : St} {listed : Array Bool} {L : Lay} {lam : List Nat} {a : Act} {w : World}

theorem only_in {ls : List Nat} {t : Nat → Value} {i : Nat} (h : i ∈ ls) : only ls t i = t i := by unfold only; rw [List.contains_iff_mem.2 h]; rfl

theorem ev_only {o : Oper} {t : Nat → Value} : ∀ x ∈ o.op.operands, ev (only (o.looksAt ops) t) x = ev t x := by
  intro x hx
  cases x with
  | tmp i =>
    show only _ t i = t i
    refine only_in (List.mem_append_left _ (List.mem_filterMap.2 ⟨.tmp i, by simpa using hx, rfl⟩))
  | _ => rfl

theorem pureNow_only {o : Oper} {t : Nat → Value} : pureNow o (only (o.looksAt ops) t) = pureNow o t := by
  have h := ev_only (ops := ops) (o := o) (t := t)
  unfold pureNow
  split <;> try rfl
  rename_i x ho
  rw [h x (by rw [ho]; simp [Op.operands])]

theorem readNow_only {o : Oper} {t : Nat → Value} : readNow o (only (o.looksAt ops) t) = readNow o t := by
  have h := ev_only (ops := ops) (o := o) (t := t)
  unfold readNow
  split <;> try rfl
  rename_i x ho
  rw [h x (by rw [ho]; simp [Op.operands])]

theorem putD_ne {t : Nat → Value} {dst : Option Tmp} {v : Value} {i : Nat} (h : dst ≠ some i) : putD t dst v i = t i := by
  cases dst with
  | none => rfl
  | some d =>
    show (bif i == d then v else t i) = _
    rw [show (i == d) = false from beq_eq_false_iff_ne.2 fun e => h (by rw [e])]; rfl
theorem putD_eq {t : Nat → Value} {v : Value} {d : Nat} : putD t (some d) v d = v := by
  show (bif d == d then v else t d) = _
  rw [beq_self_eq_true]; rfl

theorem Owes.next {x : Stp} (h : Owes P nt ops n0 x st) {dst : Option Tmp} {v : Value} {S' : List (List Value)} {h' : AHeap} (hl : ∀ d, dst = some d → d ∉ looks ops x.1) (hd : ∀ d, dst = some d → dstAt ops x.1 ≠ some d)
    (hre : (x.2.1 = 1 ∨ x.2.1 = 2) → (S' = st.S ∧ h' = st.h) ∨ reOk P E ops x st ⟨putD st.t dst v, S', h'⟩) : Owes P nt ops n0 x ⟨putD st.t dst v, S', h'⟩ := by
  obtain ⟨o, q, ho, hw, hf, ht⟩ := h
  have agree : ∀ i ∈ o.looksAt ops, putD st.t dst v i = st.t i := fun i hi => putD_ne fun e => hl i e (by rw [looks_eq ho]; exact hi)
  have dval : ∀ d, o.dst = some d → putD st.t dst v d = st.t d := fun d e => putD_ne fun e' => hd d e' (by rw [dstAt_eq ho]; exact e)
  have only_eq : only (o.looksAt ops) (putD st.t dst v) = only (o.looksAt ops) st.t := funext fun i => by
    by_cases hi : i ∈ o.looksAt ops
    · rw [only_in hi, only_in hi]; exact agree i hi
    · unfold only; rw [show (o.looksAt ops).contains i = false from by simpa using hi]; rfl
  refine ⟨o, q, ho, hw.congr agree, fun e d e' => (dval d e').trans (hf e d e'), fun e => ?_⟩
  obtain ⟨u, hu, hk⟩ := ht e
  rcases hk with ⟨k, h0⟩ | ⟨k, h1⟩ | ⟨k, t, z, l, d, hop, hdst, hz, hpl, rfl, hg, hn0, hln⟩
  · exact ⟨u, fun d e' => (dval d e').trans (hu d e'), .inl ⟨k, by dsimp only; rw [only_eq]; exact h0⟩⟩
  · rcases hre (.inl k) with ⟨rfl, rfl⟩ | hr
    · exact ⟨u, fun d e' => (dval d e').trans (hu d e'), .inr (.inl ⟨k, by dsimp only; rw [only_eq]; exact h1⟩)⟩
    · unfold reOk at hr
      rw [ho] at hr
      dsimp only at hr
      obtain ⟨w', g', hr⟩ := guard_is hr
      obtain rfl : w' = true := (g'.det (hw.congr agree)).trans e
      rw [k] at hr
      dsimp only at hr
      obtain ⟨hrd, hr⟩ := bs_false hr
      have hr' := vcOp_congr (t' := only (o.looksAt ops) (putD st.t dst v)) ev_only (C := fun u _ _ => match o.dst with | some d => u = putD st.t dst v d | none => True) hr
      obtain ⟨u2, e3, sem⟩ := read_sound (nt := nt) (st := ⟨only (o.looksAt ops) (putD st.t dst v), S', h'⟩) (readNow_only.trans hrd) hr'
      refine ⟨u2, fun d e' => ?_, .inr (.inl ⟨k, sem⟩)⟩
      rw [e'] at e3; exact e3.symm
  · refine ⟨_, fun d e' => (dval d e').trans (hu d e'), .inr (.inr ⟨k, t, z, l, d, hop, hdst, hz, hpl, rfl, ?_⟩)⟩
    rcases hre (.inr k) with ⟨rfl, rfl⟩ | hr
    · exact ⟨hg, hn0, hln⟩
    · unfold reOk at hr
      rw [ho] at hr
      dsimp only at hr
      obtain ⟨w', g', hr⟩ := guard_is hr
      obtain rfl : w' = true := (g'.det (hw.congr agree)).trans e
      rw [k, hdst] at hr
      dsimp only at hr
      rw [dval d hdst, hu d hdst] at hr
      dsimp only at hr
      exact ⟨hr.1.trans hg, hn0, Nat.lt_of_lt_of_le hln hr.2⟩

theorem J.ghost_lt (j : J P nt ops n0 L0 F R w0 done owed st listed L lam a w) {y : Stp} (hy : y ∈ owed) (hk : y.2.1 = 2) {d l : Nat} (hd : dstAt ops y.1 = some d) (hl : st.t d = .pointer (some ⟨l, 0, some 0⟩)) : l < st.h.n := by
  obtain ⟨o2, q2, ho2, _, hf2, ht2⟩ := j.ow y hy
  rw [dstAt_eq ho2] at hd
  cases q2 with
  | false => rw [hf2 rfl d hd] at hl; cases hl
  | true =>
    obtain ⟨v2, hd2, h2⟩ := ht2 rfl
    rcases h2 with ⟨e, _⟩ | ⟨e, _⟩ | ⟨_, _, _, l2, _, _, _, _, _, rfl, _, _, hlt⟩
    · rw [e] at hk; cases hk
    · rw [e] at hk; cases hk
    · have := (hd2 d hd).symm.trans hl
      obtain rfl : l2 = l := by injection this with e; injection e with e; injection e
      exact hlt

/-- A step is walked whose turn may come later. -/
theorem J.push (j : J P nt ops n0 L0 F R w0 done owed st listed L lam a w) {s : Stp} {rest : List Stp} {o : Oper} (c : Chk1 nt ops done s rest o) {v : Value} {h' : AHeap} (hh : h' = st.h ∨ ∃ ob, h' = st.h.push ob)
    (hs : Owes P nt ops n0 s ⟨putD st.t o.dst v, st.S, h'⟩) (hx : ∀ x ∈ owed, Owes P nt ops n0 x ⟨putD st.t o.dst v, st.S, h'⟩)
    (hg : s.2.1 = 2 → ∀ l, v = .pointer (some ⟨l, 0, some 0⟩) → l = st.h.n) : J P nt ops n0 L0 F R w0 (s :: done) (s :: owed) ⟨putD st.t o.dst v, st.S, h'⟩ listed L lam a w := by
  have sno : s ∉ owed := fun hm => c.new s (j.own s hm) rfl
  have tv : ∀ y ∈ owed, ∀ d, dstAt ops y.1 = some d → putD st.t o.dst v d = st.t d := fun y hy d hd => putD_ne fun e => (c.dst d e y (j.own y hy)).2 hd
  have sv : ∀ d, dstAt ops s.1 = some d → putD st.t o.dst v d = v := fun d hd => by rw [dstAt_eq c.at'] at hd; rw [hd]; exact putD_eq
  have rel' : StRel L F R w0 w lam nt ⟨hide ops owed st.t, st.S, h'⟩ a.tmps := by
    rcases hh with rfl | ⟨ob, rfl⟩
    · exact j.rel
    · exact j.rel.ghost ob
  refine ⟨?_, List.nodup_cons.2 ⟨sno, j.nd⟩, ?_, ?_, j.sz, j.dc, ?_, ?_, ?_, rel'.reslot fun i => ?_, j.df, j.base, ?_⟩
  · intro x hx
    rcases List.mem_cons.1 hx with rfl | hx
    · exact List.mem_cons_self
    · exact List.mem_cons_of_mem _ (j.own x hx)
  · intro x hx hn
    rcases List.mem_cons.1 hx with rfl | hx
    · exact absurd List.mem_cons_self hn
    · exact j.li x hx fun hm => hn (List.mem_cons_of_mem _ hm)
  · intro i hi
    obtain ⟨x, hx, hn, e⟩ := j.il i hi
    refine ⟨x, List.mem_cons_of_mem _ hx, fun hm => ?_, e⟩
    rcases List.mem_cons.1 hm with rfl | hm
    · exact c.new x hx rfl
    · exact hn hm
  · intro x hm
    rcases List.mem_cons.1 hm with rfl | hm
    · exact hs
    · exact hx x hm
  · intro y hy hk d l hd hl
    rcases List.mem_cons.1 hy with rfl | hy
    · dsimp only at hl
      rw [sv d hd] at hl
      have e := hg hk l hl
      rw [e]; exact j.rel.rel.unl _ (Nat.le_refl _)
    · dsimp only at hl
      rw [tv y hy d hd] at hl
      exact j.gh y hy hk d l hd hl
  · intro x hx1 y hy1 ne hk hk' d d' l hd hd' hl hl'
    dsimp only at hl hl'
    rcases List.mem_cons.1 hx1 with ex | hx2
    · rcases List.mem_cons.1 hy1 with ey | hy2
      · rw [ex, ey] at ne; exact ne rfl
      · rw [ex] at hk hd
        rw [sv d hd] at hl
        rw [tv y hy2 d' hd'] at hl'
        have := j.ghost_lt hy2 hk' hd' hl'
        rw [hg hk l hl] at this
        exact Nat.lt_irrefl _ this
    · rcases List.mem_cons.1 hy1 with ey | hy2
      · rw [ey] at hk' hd'
        rw [sv d' hd'] at hl'
        rw [tv x hx2 d hd] at hl
        have := j.ghost_lt hx2 hk hd hl
        rw [hg hk' l hl'] at this
        exact Nat.lt_irrefl _ this
      · rw [tv x hx2 d hd] at hl
        rw [tv y hy2 d' hd'] at hl'
        exact j.gd x hx2 y hy2 ne hk hk' d d' l hd hd' hl hl'
  · by_cases hq : ∃ y ∈ s :: owed, dstAt ops y.1 = some i
    · obtain ⟨y, hy, e⟩ := hq
      rw [hide_yes hy e]; exact .inl rfl
    · have hq' : ∀ y ∈ s :: owed, dstAt ops y.1 ≠ some i := fun y hy e => hq ⟨y, hy, e⟩
      rw [hide_no hq']
      show SlotRel L lam (putD st.t o.dst v i) _
      rw [putD_ne (by rw [← dstAt_eq c.at']; exact hq' s List.mem_cons_self)]
      have := j.rel.slots i
      dsimp only at this
      rw [hide_no fun y hy => hq' y (List.mem_cons_of_mem _ hy)] at this
      exact this
  · rcases hh with rfl | ⟨ob, rfl⟩
    · exact j.n
    · exact Nat.le_succ_of_le j.n

/-- A step is carried out and walked at once. -/
theorem J.after (j : J P nt ops n0 L0 F R w0 done owed st listed L lam a w) {s : Stp} {rest : List Stp} {o : Oper} (c : Chk1 nt ops done s rest o) (hp : ∀ z, waits ops s.1 z = true → listed.getD z false = true)
    {L' : Lay} {lam' : List Nat} {W : World} {v V : Value} {tt : Nat → Value} {S' : List (List Value)} {h' : AHeap} (hv : v = undef ∨ SVRel L' lam' v V) (hext : Ext L st.h L' h') (hpre : lam <+: lam') (hr : StRel L' F R w0 W lam' nt ⟨tt, S', h'⟩ a.tmps)
    (hx : ∀ x ∈ owed, Owes P nt ops n0 x ⟨putD st.t o.dst v, S', h'⟩) : J P nt ops n0 L0 F R w0 (s :: done) owed ⟨putD st.t o.dst v, S', h'⟩ (listed.setIfInBounds s.1 true) L' lam' (a.put o.dst V) W := by
  have hlt : s.1 < listed.size := by rw [j.sz]; exact (Array.getElem?_eq_some_iff.1 c.at').1
  have sno : s ∉ owed := fun hm => c.new s (j.own s hm) rfl
  have hle := hext.le j.rel.rel.unl
  have tv : ∀ y ∈ owed, ∀ d, dstAt ops y.1 = some d → putD st.t o.dst v d = st.t d := fun y hy d hd => putD_ne fun e => (c.dst d e y (j.own y hy)).2 hd
  refine ⟨fun x hx => List.mem_cons_of_mem _ (j.own x hx), j.nd, ?_, ?_, by simpa using j.sz, ?_, hx, ?_, ?_, ?_, by rw [put_defers]; exact j.df, ?_, Nat.le_trans j.n hext.n⟩
  · intro x hx hn
    rcases List.mem_cons.1 hx with rfl | hx
    · exact getD_set_self hlt
    · exact getD_set_true (j.li x hx hn)
  · intro i hi
    rcases set_listed hi with rfl | hi
    · exact ⟨s, List.mem_cons_self, sno, rfl⟩
    · obtain ⟨x, hx, hn, e⟩ := j.il i hi
      exact ⟨x, List.mem_cons_of_mem _ hx, hn, e⟩
  · intro z y hz hw
    rcases set_listed hz with rfl | hz
    · exact getD_set_true (hp y hw)
    · exact getD_set_true (j.dc z y hz hw)
  · intro y hy hk d l hd hl
    dsimp only at hl
    rw [tv y hy d hd] at hl
    rw [hext.lay l (j.ghost_lt hy hk hd hl)]
    exact j.gh y hy hk d l hd hl
  · intro x hx y hy ne hk hk' d d' l hd hd' hl hl'
    dsimp only at hl hl'
    rw [tv x hx d hd] at hl
    rw [tv y hy d' hd'] at hl'
    exact j.gd x hx y hy ne hk hk' d d' l hd hd' hl hl'
  · have r1 : StRel L' F R w0 W lam' nt ⟨hide ops owed st.t, S', h'⟩ a.tmps := hr.reslot fun i => (j.rel.slots i).mono hle hpre
    have r2 := r1.put (dst := o.dst) (dOk_lt c.d) hv
    refine StRel.reslot (t1 := putD (hide ops owed st.t) o.dst v) r2 fun i => ?_
    have hi := r2.slots i
    dsimp only at hi
    by_cases hq : ∃ y ∈ owed, dstAt ops y.1 = some i
    · obtain ⟨y, hy, e⟩ := hq
      rw [hide_yes hy e]; exact .inl rfl
    · have hq' : ∀ y ∈ owed, dstAt ops y.1 ≠ some i := fun y hy e => hq ⟨y, hy, e⟩
      rw [hide_no hq']
      show SlotRel L' lam' (putD st.t o.dst v i) _
      by_cases e : o.dst = some i
      · rw [e] at hi ⊢
        rw [putD_eq] at hi ⊢; exact hi
      · rw [putD_ne e] at hi ⊢
        rw [hide_no hq'] at hi; exact hi
  · intro l hl
    rw [hext.lay l (Nat.lt_of_lt_of_le hl j.n)]; exact j.base l hl

theorem J.someReady (j : J P nt ops n0 L0 F R w0 done owed st listed L lam a w) : ∀ (d : List Stp), Ord ops d → (∀ x ∈ d, x ∈ done) → (∃ x ∈ owed, x ∈ d) → ∃ x ∈ owed, ∀ z, waits ops x.1 z = true → listed.getD z false = true
  | [], _, _, ⟨_, _, h⟩ => by cases h
  | s :: d, ho, hd, h => by
    by_cases e : ∃ x ∈ owed, x ∈ d
    · exact j.someReady d ho.2 (fun x hx => hd x (List.mem_cons_of_mem _ hx)) e
    · obtain ⟨x, hx, hm⟩ := h
      rcases List.mem_cons.1 hm with rfl | hm
      · refine ⟨x, hx, fun z hz => ?_⟩
        obtain ⟨y, hy, rfl⟩ := ho.1 z hz
        exact j.li y (hd y (List.mem_cons_of_mem _ hy)) fun hm => e ⟨y, hm, hy⟩
      · exact absurd ⟨x, hx, hm⟩ e

theorem ready_iff {i : Nat} (hs : listed.size = ops.size) : i ∈ Region.ready .any ops listed ↔ i < ops.size ∧ ¬ listed.getD i false = true ∧ ∀ z, waits ops i z = true → listed.getD z false = true := by
  rw [mem_ready]
  constructor
  · rintro ⟨h1, o, ho, h⟩
    have hlt := (Array.getElem?_eq_some_iff.1 ho).1
    refine ⟨hlt, fun h2 => ?_, fun z hz => ?_⟩
    · have hlt' : i < listed.size := by rw [hs]; exact hlt
      simp [hlt'] at h1 h2; rw [h1] at h2; cases h2
    · obtain ⟨o', ho', e, he, hb, rfl⟩ := waits_iff.1 hz
      obtain rfl := Option.some.inj (ho.symm.trans ho')
      exact h e he hb
  · rintro ⟨hlt, h1, h2⟩
    have hlt' : i < listed.size := by rw [hs]; exact hlt
    refine ⟨?_, ops[i], Array.getElem?_eq_getElem hlt, fun e he hb => h2 e.on (waits_iff.2 ⟨_, Array.getElem?_eq_getElem hlt, e, he, hb, rfl⟩)⟩
    simp [hlt'] at h1 ⊢; exact h1

theorem chk_all : ∀ (l done : List Stp), chk nt ops done l = true → ∀ i, i < ops.size → (∃ x ∈ done, x.1 = i) ∨ ∃ x ∈ l, x.1 = i
  | [], done, h, i, hi => by
    unfold chk at h
    simp only [Bool.and_eq_true] at h
    have := List.all_eq_true.1 h.2 i (List.mem_range.2 hi)
    obtain ⟨x, hx, e⟩ := List.any_eq_true.1 this
    exact .inl ⟨x, hx, by simpa using e⟩
  | s :: l, done, h, i, hi => by
    unfold chk at h
    simp only [Bool.and_eq_true] at h
    rcases chk_all l (s :: done) h.2 i hi with ⟨x, hx, e⟩ | ⟨x, hx, e⟩
    · rcases List.mem_cons.1 hx with rfl | hx
      · exact .inr ⟨x, List.mem_cons_self, e⟩
      · exact .inl ⟨x, hx, e⟩
    · exact .inr ⟨x, List.mem_cons_of_mem _ hx, e⟩

theorem chk_len : ∀ (l done : List Stp), chk nt ops done l = true → done.length + l.length = ops.size
  | [], done, h => by
    unfold chk at h
    simp only [Bool.and_eq_true, beq_iff_eq] at h
    simpa using h.1
  | s :: l, done, h => by
    unfold chk at h
    simp only [Bool.and_eq_true] at h
    have := chk_len l (s :: done) h.2
    simp only [List.length_cons] at this ⊢; omega
end
end Go.Abs
