/- Stores, struct values, cuts. -/
import Derived.Test.YtgcckeglmhbnmaaA5
namespace Go.Abs

/-- The model's run of several stores into one block. -/
theorem run_store_cells (P : Program) (g o : Nat) (t : TypeId) (fr : Nat × Nat) : ∀ (vs : List Value) (i : Nat) (cur : Array Value) (w : World), w.heap[g]? = some (.cells cur t fr) → (fr.2 ≤ fr.1 ∨ cur.size ≤ fr.1) → o + i + vs.length ≤ cur.size → (∀ v ∈ vs, v.oneCell' = true) →
    (storeCells ⟨g, o, none⟩ vs i).run P w = .ok () (w.setRow g (cur.toList.take (o + i) ++ vs ++ cur.toList.drop (o + i + vs.length)).toArray)
  | [], i, cur, w, hg, _, _, _ => by
    simp only [storeCells, List.append_nil, List.length_nil, Nat.add_zero, List.take_append_drop, Array.toArray_toList]
    rw [setRow_self w g cur t fr hg]
    rfl
  | v :: rest, i, cur, w, hg, hfr, hl, h1 => by
    have hi : o + i < cur.size := by simp at hl; omega
    have hadd : (⟨g, o, none⟩ : Addr).add i = ⟨g, o + i, none⟩ := add_addr g o i
    have hcell : w.cell? ⟨g, o + i, none⟩ = some cur[o + i] := by simp [World.cell?, hg, hi]
    have hfro : w.frozen? ⟨g, o + i, none⟩ = false := by
      obtain ⟨lo, hh⟩ := fr
      simp only [World.frozen?, hg, Bool.and_eq_false_iff, decide_eq_false_iff_not]
      dsimp only at hfr
      rcases hfr with h | h <;> omega
    have hst : (store ((⟨g, o, none⟩ : Addr).add i) v).run P w = .ok () (w.setRow g (cur.setIfInBounds (o + i) v)) := by
      rw [hadd, run_store P w _ v _ (h1 v (by simp)), hcell]
      simp [hfro, setCell_eq_setRow w g (o + i) cur t fr v hg]
    have ih := run_store_cells P g o t fr rest (i + 1) (cur.setIfInBounds (o + i) v) (w.setRow g (cur.setIfInBounds (o + i) v)) (setRow_heap w g cur _ t _ hg) (by simpa using hfr) (by simp at hl ⊢; omega) (fun x hx => h1 x (by simp [hx]))
    simp only [storeCells, Sem.run_bind, hst, Result.andThen_ok, ih, setRow_setRow]
    congr 3
    have e := list_seg_step cur.toList (o + i) v rest (by simp at hl ⊢; omega)
    simpa [Array.toList_setIfInBounds, Nat.add_assoc] using e

theorem turns_setRow {w : World} {g : Nat} (c : Array Value) : Turns w (w.setRow g c) g := ⟨rfl, rfl, rfl, by simp [World.setRow], fun i hi => setRow_other w g i c hi⟩

theorem setRange_rel {L : Lay} {row vs : List Value} {A : Array Value} {V : List Value} {c : Nat} (hr : LRel L row A) (hv : LRel L vs V.toArray) (hc : c + vs.length ≤ row.length) :
    LRel L (setRange row c vs) (A.toList.take c ++ V ++ A.toList.drop (c + V.length)).toArray := by
  have hvl : vs.length = V.length := by simpa using hv.1
  have hA : A.toList.length = row.length := by rw [Array.length_toList]; exact hr.1.symm
  have e : (A.toList.take c ++ V ++ A.toList.drop (c + V.length)) = setRange A.toList c V := rfl
  rw [e]
  refine ⟨by rw [setRange_length hc, List.size_toArray, setRange_length (by omega)]; exact hA.symm, fun j v hj => ?_⟩
  rw [List.getElem?_toArray, setRange_get (by omega)]
  rw [setRange_get hc] at hj
  split at hj
  · rename_i h; rw [if_pos h, Array.getElem?_toList]; exact hr.2 j v hj
  · rename_i h; rw [if_neg h]
    split at hj
    · rename_i h2; rw [if_pos (by omega)]
      obtain ⟨X, a, b⟩ := hv.2 _ v hj
      exact ⟨X, by rw [List.getElem?_toArray] at a; exact a, b⟩
    · rename_i h2; rw [if_neg (by omega), Array.getElem?_toList]; exact hr.2 j v hj

/-- A written local. -/
theorem StRel.setLocal {L : Lay} {F R : Nat → Prop} {w0 w : World} {lam : List Nat} {nt : Nat} {st : St} {T : Array Value} (r : StRel L F R w0 w lam nt st T) {i b : Nat} (hb : lam[i]? = some b) {cs : Array Value} {ty : TypeId} {row' : List Value}
    (hold : w.heap[b]? = some (.cells cs ty (0, 0))) {cs' : Array Value} (hr : LRel L row' cs') : StRel L F R w0 (w.setRow b cs') lam nt { st with S := st.S.set i row' } T := by
  have t : Turns w (w.setRow b cs') b := turns_setRow cs'
  have hmem : b ∈ lam := List.mem_of_getElem? hb
  have hsep : ∀ l o s, st.h.get l = some o → L l = some s → s.blk ≠ b := by
    intro l o s h1 h2 e
    cases ho : o.rw with
    | true => exact r.lrw l o s h1 h2 ho (e ▸ hmem)
    | false => exact r.lF b hmem (r.rel.inR _ (e ▸ r.rel.ro l o s h1 h2 ho))
  refine ⟨⟨t.keeps r.rel.keeps (r.lF b hmem), r.rel.inF, r.rel.inR, r.rel.fresh, r.rel.unl, fun l o s h1 h2 => (r.rel.obj l o s h1 h2).world (by rw [t.size]; exact Nat.le_refl _) (t.block _ (hsep l o s h1 h2)), r.rel.free, r.rel.ro, r.rel.apart⟩, r.tsz, by simpa using r.llen, r.lnd, r.lF, r.lrw, ?_, r.slots⟩
  intro j b' row h1 h2
  by_cases e : j = i
  · subst e
    obtain rfl := Option.some.inj (hb.symm.trans h1)
    have : j < st.S.length := by rw [← r.llen]; exact (List.getElem?_eq_some_iff.1 hb).1
    rw [List.getElem?_set_self this] at h2
    obtain rfl := Option.some.inj h2
    exact ⟨cs', ty, setRow_heap w _ cs cs' ty (0, 0) hold, hr.1.symm, hr.2⟩
  · rw [List.getElem?_set_ne (Ne.symm e)] at h2
    obtain ⟨c, q, a, d, f⟩ := r.lblk j b' row h1 h2
    have hne : b' ≠ b := by
      intro eb; subst eb
      obtain ⟨hj, hj'⟩ := List.getElem?_eq_some_iff.1 h1
      obtain ⟨hi, hi'⟩ := List.getElem?_eq_some_iff.1 hb
      exact e ((List.getElem_inj r.lnd).1 (hj'.trans hi'.symm))
    exact ⟨c, q, (t.block _ hne).trans a, d, f⟩

/-- A written object. -/
theorem StRel.setObj {L : Lay} {F R : Nat → Prop} {w0 w w' : World} {lam : List Nat} {nt : Nat} {st : St} {T : Array Value} (r : StRel L F R w0 w lam nt st T) {l : Nat} {o o' : AObj} {s : Site} (hl : st.h.get l = some o) (hs : L l = some s)
    (hrw : o.rw = true) (hrw' : o'.rw = true) (t : Turns w w' s.blk) (ho : ObjRel L w' s o') : StRel L F R w0 w' lam nt { st with h := st.h.put l (some o') } T := by
  have hb : s.blk ∉ lam := r.lrw l o s hl hs hrw
  refine ⟨r.rel.rewrite hl hs hrw hrw' t ho, r.tsz, r.llen, r.lnd, r.lF, ?_, fun i b row h1 h2 => ?_, r.slots⟩
  · intro x y q h1 h2 h3
    by_cases e : x = l
    · subst e; obtain rfl := Option.some.inj (hs.symm.trans h2); exact hb
    · exact r.lrw x y q ((AHeap.get_put_ne e).symm.trans h1) h2 h3
  · obtain ⟨c, q, a, d, f⟩ := r.lblk i b row h1 h2
    exact ⟨c, q, (t.block _ (fun e => hb (e ▸ List.mem_of_getElem? h1))).trans a, d, f⟩

section
variable {P : Program} {nt : Nat} {o : Oper} {st : St}

theorem store_sound {t : TypeId} {x y : Operand} {K : Value → St → Prop} (ho : o.op = .store t x y) (h : vcStore P t (ev st.t x) (ev st.t y) st K) : ∃ v st', K v st' ∧ OpSem P nt o st v st' := by
  obtain ⟨hc, h⟩ := bs_false h
  simp only [Bool.and_eq_true, decide_eq_true_eq, List.all_eq_true] at hc
  obtain ⟨⟨⟨hv, hone⟩, hsz⟩, hpos⟩ := hc
  have exec : ∀ (a : Act) (w w' : World) (A : Addr), a.eval x = .pointer (some A) → (a.eval y).cells.size = (cellsL (ev st.t y)).length → (storeCells A (a.eval y).cells.toList).run P w = .ok () w' → (execOp a.eval o).run P w = .ok .skip w' := by
    intro a w w' A e hs hr
    unfold execOp; rw [ho]
    simp [e, Instr.storeAt, Instr.sureAddr, storeVar, size_run hsz, hs, hr]
  have one : ∀ (L : Lay) (a : Act), VRel L (ev st.t y) (a.eval y) → LRel L (cellsL (ev st.t y)) (a.eval y).cells ∧ ∀ V ∈ (a.eval y).cells.toList, V.oneCell' = true := by
    intro L a r
    have c := cells_rel r
    refine ⟨.of c.1 c.2, fun V hV => ?_⟩
    obtain ⟨j, hj, e⟩ := List.getElem_of_mem hV
    rw [Array.length_toList] at hj
    have hj' : j < (cellsL (ev st.t y)).length := by rw [c.1]; exact hj
    have := c.2 j _ V (List.getElem?_eq_getElem hj') (by rw [Array.getElem?_eq_getElem hj]; rw [Array.getElem_toList] at e; exact congrArg some e)
    exact oneLeaf_rel this (hone _ (List.getElem_mem hj'))
  split at h
  · rename_i i c hx
    split at h
    case h_2 => exact h.elim
    rename_i row hrow
    obtain ⟨hc, h⟩ := bs_false h
    have hc := of_decide_eq_true hc
    refine ⟨_, _, h, rfl, fun L F R w0 w lam a r _ next Q hn => ?_⟩
    obtain ⟨b, hb, e⟩ := (r.known.of hx (by simp [undef])).lptr
    obtain ⟨hl, h1⟩ := one L a (r.known.ok hv)
    obtain ⟨cs, ty, hh, hcs, hcv⟩ := r.lblk i b row hb hrow
    have run := run_store_cells P b c ty (0, 0) (a.eval y).cells.toList 0 cs w hh (.inl (Nat.le_refl _)) (by rw [Array.length_toList, ← hl.1, hcs]; omega) h1
    rw [Nat.add_zero] at run
    have rel : LRel L (setRange row c (cellsL (ev st.t y))) (cs.toList.take c ++ (a.eval y).cells.toList ++ cs.toList.drop (c + (a.eval y).cells.toList.length)).toArray :=
      setRange_rel ⟨hcs.symm, hcv⟩ (by simpa using hl) hc
    unfold Oper.wp
    rw [exec a w _ ⟨b, c, none⟩ e hl.1.symm run, Oper.upon_skip]
    refine hn undef _ L lam (.inl rfl) (Ext.refl _ _) (List.prefix_refl _) (r.setLocal hb hh rel)
  · rename_i l i c hx
    obtain ⟨h', hw, h⟩ := h
    refine ⟨_, _, h, rfl, fun L F R w0 w lam a r _ next Q hn => ?_⟩
    obtain ⟨s, hs, e⟩ := (r.known.of hx (by simp [undef])).ptr
    obtain ⟨hl, h1⟩ := one L a (r.known.ok hv)
    unfold AHeap.wr at hw
    split at hw
    case h_2 => cases hw
    rename_i ob hob
    split at hw
    case h_2 => cases hw
    rename_i row hrow
    cases hq : (ob.rw && decide (c + (cellsL (ev st.t y)).length ≤ row.length)) with
    | false => rw [hq] at hw; cases hw
    | true =>
    rw [hq] at hw
    simp only [Bool.and_eq_true, decide_eq_true_eq] at hq
    obtain ⟨hrw, hc⟩ := hq
    obtain rfl := Option.some.inj hw
    have or := r.rel.obj l ob s hob hs
    obtain ⟨cs, ty, fr, hh, hcs, hfr⟩ := or.own hrw
    -- all cells of the row lie in the block
    have hrowlen := or.len i row hrow
    have inb : ∀ j, j < row.length → s.base + i * s.esz + j < cs.size ∧ ∃ V, cs[s.base + i * s.esz + j]? = some V ∧ ∃ v, row[j]? = some v ∧ VRel L v V := by
      intro j hj
      obtain ⟨V, a1, a2⟩ := or.cell i row hrow j row[j] (List.getElem?_eq_getElem hj)
      unfold World.cell? at a1
      rw [hh] at a1
      simp only [Option.isSome_none, Bool.false_eq_true, if_false] at a1
      exact ⟨(Array.getElem?_eq_some_iff.1 a1).1, V, a1, row[j], List.getElem?_eq_getElem hj, a2⟩
    have hfit : s.base + i * s.esz + c + (cellsL (ev st.t y)).length ≤ cs.size := by
      have := (inb (c + (cellsL (ev st.t y)).length - 1) (by omega)).1; omega
    have run := run_store_cells P s.blk (s.base + i * s.esz + c) ty fr (a.eval y).cells.toList 0 cs w hh (by rw [hcs]; rw [← hcs]; exact hfr) (by rw [Array.length_toList, ← hl.1]; omega) h1
    rw [Nat.add_zero] at run
    have hVl : (a.eval y).cells.toList.length = (cellsL (ev st.t y)).length := by rw [Array.length_toList]; exact hl.1.symm
    have hcsl : cs.toList.length = cs.size := Array.length_toList
    have e2 : (cs.toList.take (s.base + i * s.esz + c) ++ (a.eval y).cells.toList ++ cs.toList.drop (s.base + i * s.esz + c + (a.eval y).cells.toList.length)) = setRange cs.toList (s.base + i * s.esz + c) (a.eval y).cells.toList := rfl
    rw [e2] at run
    have hget : ∀ k, (setRange cs.toList (s.base + i * s.esz + c) (a.eval y).cells.toList).toArray[k]? = if k < s.base + i * s.esz + c then cs[k]? else if k < s.base + i * s.esz + c + (cellsL (ev st.t y)).length then (a.eval y).cells[k - (s.base + i * s.esz + c)]? else cs[k]? := by
      intro k
      rw [List.getElem?_toArray, setRange_get (by omega), hVl]
      simp only [Array.getElem?_toList]
    unfold Oper.wp
    rw [exec a w _ _ e hl.1.symm run, Oper.upon_skip]
    have T : Turns w (w.setRow s.blk (setRange cs.toList (s.base + i * s.esz + c) (a.eval y).cells.toList).toArray) s.blk := turns_setRow _
    refine hn undef _ L lam (.inl rfl) (⟨Nat.le_refl _, fun _ _ => rfl⟩) (List.prefix_refl _) (r.setObj hob hs hrw hrw T ?_)
    have hesz : s.esz = row.length := by rw [or.esz, hrowlen]
    have hheap := setRow_heap w s.blk cs (setRange cs.toList (s.base + i * s.esz + c) (a.eval y).cells.toList).toArray ty fr hh
    have hlen' : (setRange cs.toList (s.base + i * s.esz + c) (a.eval y).cells.toList).length = cs.size := by rw [setRange_length (by omega), hcsl]
    refine ⟨or.esz, or.rw, by rw [T.size]; exact or.lt, ?_, ?_, fun _ => ⟨_, ty, fr, hheap, by rw [List.size_toArray, hlen', hcs], by rw [List.size_toArray, hlen']; rw [hcs] ; rw [← hcs]; exact hfr⟩⟩
    · intro r' row' hr'
      by_cases er : r' = i
      · subst er
        have : r' < ob.rows.length := (List.getElem?_eq_some_iff.1 hrow).1
        rw [List.getElem?_set_self this] at hr'
        obtain rfl := Option.some.inj hr'
        rw [setRange_length hc]; exact hrowlen
      · rw [List.getElem?_set_ne (Ne.symm er)] at hr'
        exact or.len r' row' hr'
    · intro r' row' hr' j v hv'
      have cell : ∀ k, (w.setRow s.blk (setRange cs.toList (s.base + i * s.esz + c) (a.eval y).cells.toList).toArray).cell? ⟨s.blk, k, none⟩ = (setRange cs.toList (s.base + i * s.esz + c) (a.eval y).cells.toList).toArray[k]? := by
        intro k; unfold World.cell?; rw [hheap]; simp
      have oldc : ∀ k, w.cell? ⟨s.blk, k, none⟩ = cs[k]? := by
        intro k; unfold World.cell?; rw [hh]; simp
      rw [cell, hget]
      by_cases er : r' = i
      · subst er
        have : r' < ob.rows.length := (List.getElem?_eq_some_iff.1 hrow).1
        rw [List.getElem?_set_self this] at hr'
        obtain rfl := Option.some.inj hr'
        rw [setRange_get hc] at hv'
        by_cases j1 : j < c
        · rw [if_pos j1] at hv'
          rw [if_pos (by omega), ← oldc]
          exact or.cell r' row hrow j v hv'
        · rw [if_neg j1] at hv'
          by_cases j2 : j < c + (cellsL (ev st.t y)).length
          · rw [if_pos j2] at hv'
            rw [if_neg (by omega), if_pos (by omega), show s.base + r' * s.esz + j - (s.base + r' * s.esz + c) = j - c from by omega]
            exact hl.2 _ v hv'
          · rw [if_neg j2] at hv'
            rw [if_neg (by omega), if_neg (by omega), ← oldc]
            exact or.cell r' row hrow j v hv'
      · rw [List.getElem?_set_ne (Ne.symm er)] at hr'
        have hj : j < s.esz := by
          have h1 := (List.getElem?_eq_some_iff.1 hv').1
          have h2 := or.len r' row' hr'
          have h3 := or.esz; omega
        have hold := or.cell r' row' hr' j v hv'
        rw [oldc] at hold
        rcases Nat.lt_or_gt_of_ne er with h1 | h1
        · have h2 : (r' + 1) * s.esz ≤ i * s.esz := Nat.mul_le_mul_right _ h1
          rw [Nat.succ_mul] at h2
          rw [if_pos (by omega)]; exact hold
        · have h2 : (i + 1) * s.esz ≤ r' * s.esz := Nat.mul_le_mul_right _ h1
          rw [Nat.succ_mul] at h2
          rw [if_neg (by omega), if_neg (by omega)]; exact hold
  · exact h.elim
end
end Go.Abs
