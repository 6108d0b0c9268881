/- append is sound. -/
import Derived.Test.YtgcckeglmhbnmaaA9
namespace Go.Abs

section
variable {P : Program} {nt : Nat} {o : Oper} {st : St}

theorem FRel.obj {L : Lay} {rows : List (List Value)} {e : Nat} {cs : List Value} {A : Array Value} {off : Nat} (h : FRel L rows e cs) (hA : ∀ (j : Nat) (V : Value), cs[j]? = some V → A[off + j]? = some V) :
    ∀ (i : Nat) (row : List Value), rows[i]? = some row → ∀ (j : Nat) (v : Value), row[j]? = some v → ∃ V, A[off + (i * e + j)]? = some V ∧ VRel L v V :=
  fun i row hi j v hj => let ⟨V, a, b⟩ := h.2.2 i row hi j v hj; ⟨V, hA _ V a, b⟩

theorem FRel.len {L : Lay} {rows : List (List Value)} {e : Nat} {cs : List Value} (h : FRel L rows e cs) : ∀ (i : Nat) (row : List Value), rows[i]? = some row → row.length = e :=
  fun _ row hi => h.1 row (List.mem_of_getElem? hi)

/-- What the model's grown block holds. -/
theorem grown_rel {L : Lay} {F R : Nat → Prop} {w0 w : World} {lam : List Nat} {a : Act} (r : StRel L F R w0 w lam nt st a.tmps) {rows : List (List Value)} {z q : Nat} {cs zc : List Value} {e : TypeId} (hF : FRel L rows z cs) (hz : zc.length = z) (hq : rows.length ≤ q) :
    ∃ L', VRel L' (.slice (some ⟨st.h.n, 0, some z⟩) rows.length 0) (.slice (some ⟨w.heap.size, 0, none⟩) rows.length q) ∧ Ext L st.h L' (st.h.push ⟨rows, z, true⟩) ∧
      StRel L' F R w0 (w.drew.alloc (.cells (cs.toArray ++ Builtin.zeroCells zc.toArray (q - rows.length)) e)) lam nt { st with h := st.h.push ⟨rows, z, true⟩ } a.tmps := by
  have rd : StRel L F R w0 w.drew lam nt st a.tmps := ⟨r.rel.drew _, r.tsz, r.llen, r.lnd, r.lF, r.lrw, r.lblk, r.slots⟩
  have key := rd.heap (o := ⟨rows, z, true⟩) (cs := cs.toArray ++ Builtin.zeroCells zc.toArray (q - rows.length)) e (0, 0) (.inl (Nat.le_refl _)) rfl (fun i row hi => hF.len i row hi) (fun i row hi j v hj => by
    obtain ⟨V, a1, a2⟩ := hF.2.2 i row hi j v hj
    refine ⟨V, ?_, a2⟩
    rw [Array.getElem?_append_left (by have := (List.getElem?_eq_some_iff.1 a1).1; simpa using this)]
    simpa using a1)
  refine ⟨_, ?_, key.2, key.1⟩
  refine VRel.slice (s := ⟨w.heap.size, 0, z, _, true⟩) (if_pos rfl) rfl hq (.inr ?_) (fun _ => ?_) (.inl rfl)
  · simp
  · show 0 + (0 + q) * z ≤ (cs.toArray ++ Builtin.zeroCells zc.toArray (q - rows.length)).size
    have : (Builtin.zeroCells zc.toArray (q - rows.length)).size = (q - rows.length) * z := by simp [Builtin.zeroCells, hz]
    rw [Array.size_append, this, List.size_toArray, hF.2.1, ← Nat.add_mul]
    rw [show 0 + (0 + q) * z = q * z from by rw [Nat.zero_add, Nat.zero_add], show rows.length + (q - rows.length) = q from by omega]
    exact Nat.le_refl _

theorem StRel.kill {L : Lay} {F R : Nat → Prop} {w0 w : World} {lam : List Nat} {st : St} {T : Array Value} (r : StRel L F R w0 w lam nt st T) (l : Nat) : StRel L F R w0 w lam nt { st with h := st.h.put l none } T := by
  refine ⟨r.rel.kill l, r.tsz, r.llen, r.lnd, r.lF, fun x o s h1 h2 h3 => ?_, r.lblk, r.slots⟩
  by_cases e : x = l
  · subst e; rw [AHeap.get_put_eq] at h1; cases h1
  · rw [AHeap.get_put_ne e] at h1; exact r.lrw x o s h1 h2 h3

theorem append_sound {c : Call} {x y : Operand} {t t' : TypeId} {K : Value → St → Prop} (ho : o.op = .call c) (hc : c.callee = .builtin .append) (ha : c.args = #[x, y]) (ht : c.argTypes = #[t, t'])
    (h : vcAppend P t t' (ev st.t x) (ev st.t y) st K) : ∃ v st', K v st' ∧ OpSem P nt o st v st' := by
  have exec : ∀ (a : Act) (w w' : World) (V : Value), (Builtin.append_ #[t, t'] o.type #[a.eval x, a.eval y]).run P w = .ok V w' → (execOp a.eval o).run P w = .ok (.value V) w' := by
    intro a w w' V hr
    unfold execOp; rw [ho]
    simp [resolve, hc, ha, ht, invoke, builtin, hr]
  unfold vcAppend at h
  split at h
  case h_2 => exact h.elim
  rename_i e hu
  split at h
  case h_2 => exact h.elim
  rename_i z zv hz hzv
  obtain ⟨hq, xs, hxs, hall, hby, v, h', happ, hK⟩ := bs_false h
  simp only [Bool.and_eq_true, decide_eq_true_eq] at hq
  obtain ⟨⟨⟨⟨hz0, hb0⟩, hpz⟩, hzl⟩, hu2⟩ := hq
  obtain ⟨d, hd', hd⟩ : ∃ d, P.underlying t' = some d ∧ (d = .string ∨ ∃ e', d = .slice e') := by
    split at hu2
    · rename_i e' hh; exact ⟨_, hh, .inr ⟨_, rfl⟩⟩
    · rename_i hh; exact ⟨_, hh, .inl rfl⟩
    · cases hu2
  simp only [List.all_eq_true, Bool.and_eq_true, decide_eq_true_eq] at hall
  have hlen : ∀ row ∈ xs, row.length = z := fun row hr => (hall row hr).1
  have hone : ∀ row ∈ xs, ∀ v ∈ row, oneLeaf v = true := fun row hr v hv => (hall row hr).2 v hv
  have hyv : ev st.t y ≠ undef := by intro e0; rw [e0] at hxs; simp [rowsV, undef, AHeap.rowsOf] at hxs
  have hyok : ∀ (L : Lay) (lam : List Nat) (a : Act), Known L lam st.t a.tmps → VRel L (ev st.t y) (a.eval y) := by
    intro L lam a kn
    refine (kn.of rfl hyv).ok ?_
    revert hxs; cases ev st.t y <;> intro hxs <;> first | rfl | (simp [rowsV, AHeap.rowsOf] at hxs)
  have hzc : ∀ L, LRel L (cellsL zv) zv.cells := fun L => let c := cells_rel (VRel.plain (L := L) hpz); .of c.1 c.2
  have zsz : zv.cells.size = z := by rw [← (hzc (fun _ => none)).1]; exact hzl
  refine ⟨v, { st with h := h' }, hK, rfl, fun L F R w0 w lam a r _ next Q hn => ?_⟩
  have hY := hyok L lam a r.known
  obtain ⟨cs, hF, hL, hC⟩ := rowsV_run (P := P) r.rel hY hxs hlen
  have hcs : (Builtin.firstCells z xs.length (a.eval y)).run P w = .ok cs.toArray w := hC w.drawn
  have hcsd : (Builtin.firstCells z xs.length (a.eval y)).run P w.drew = .ok cs.toArray w.drew := hC (w.drawn + 1)
  unfold Oper.wp
  -- the first operand
  unfold AHeap.app at happ
  split at happ
  case h_2 => cases happ
  rename_i ad n c hx
  have hXs : VRel L (.slice ad n c) (a.eval x) := r.known.of hx (by simp [undef])
  have hby' : (n + xs.length) * bytesOf P e ≤ 140737488355328 := by rw [hx] at hby; exact hby
  split at happ
  · -- nothing is appended
    cases happ
    have hcs0 : cs = [] := List.eq_nil_of_length_eq_zero (by rw [hF.2.1]; simp)
    subst hcs0
    generalize hX : a.eval x = X at hXs
    cases hXs with
    | sliceN =>
      rw [exec a w w (.slice none 0 0) (by rw [hX]; exact run_append_nil' hu hd' hd hz hL hcs rfl), Oper.upon_value]
      exact hn _ _ L lam (.inr (.of .sliceN)) (Ext.refl _ _) (List.prefix_refl _) r
    | slice hl he hnC hA room hc' =>
      rename_i l i e' C s A
      rw [exec a w w (.slice (some A) n C) (by rw [hX]; exact run_append_in hu hd' hd hz hL hcs (by simpa using hnC) rfl), Oper.upon_value]
      exact hn _ _ L lam (.inr (.of (.slice hl he hnC hA room hc'))) (Ext.refl _ _) (List.prefix_refl _) r
  · rename_i x1 xs1
    generalize hXX : (x1 :: xs1) = XS at *
    have hpos : 0 < XS.length := by rw [← hXX]; simp
    clear hXX x1 xs1
    split at happ
    · -- nil grows
      obtain ⟨rfl, rfl⟩ := Prod.mk.inj (Option.some.inj happ)
      generalize hX : a.eval x = X at hXs
      cases hXs
      obtain ⟨q, hq, hrun⟩ := run_append_out (P := P) (w := w) (ty := o.type) (B := none) (n := 0) (C := 0) (ds := #[]) hu hd' hd hz hzv hb0 hL hcsd (by simp [Builtin.firstCells]) (by omega) hby'
      rw [exec a w _ _ (by rw [hX]; exact hrun), Oper.upon_value]
      simp only [Nat.zero_add, Array.empty_append] at hq ⊢
      obtain ⟨L', g1, g2, g3⟩ := grown_rel r (e := e) (zc := zv.cells.toList) hF (by rw [Array.length_toList]; exact zsz) hq
      simp only [Array.toArray_toList] at g3
      exact hn _ _ L' lam (.inr (.of g1)) g2 (List.prefix_refl _) g3
    · rename_i l i e'
      split at happ
      case h_2 => cases happ
      rename_i ss hss
      cases hee : (e' == z) with
      | false => rw [hee] at happ; cases happ
      | true =>
      rw [hee] at happ
      have hee' : e' = z := by simpa using hee
      subst hee'
      generalize hX : a.eval x = X at hXs
      cases hXs with
      | slice hl he hnC hA room hc' =>
      rename_i C s A
      obtain ⟨hes, hssl, ds, hD, hdc⟩ := r.rel.rows hss hl
      have hFD := hD.append hF
      have hfirst : C ≠ 0 → (Builtin.firstCells e' n (.slice (some A) n C)).run P w.drew = .ok ds.toArray w.drew := by
        intro hC
        refine run_firstCells_some (P := P) w.drew e' n A n C ds (by rw [hD.2.1, hssl]) fun j v hj => ?_
        rw [hA.resolve_left hC, add_addr]
        exact hdc j v hj
      have hfirst' : (Builtin.firstCells e' n (.slice (some A) n C)).run P w.drew = .ok ds.toArray w.drew := by
        by_cases hC : C = 0
        · have hn0 : n = 0 := by omega
          have hds0 : ds = [] := List.eq_nil_of_length_eq_zero (by rw [hD.2.1, hssl, hn0]; simp)
          subst hds0; subst hn0
          exact run_firstCells_some (P := P) w.drew e' 0 A 0 C [] (by simp) (by simp)
        · exact hfirst hC
      have grow : ¬ n + XS.length ≤ C → ∃ q, n + XS.length ≤ q ∧ (execOp a.eval o).run P w = .ok (.value (.slice (some ⟨w.heap.size, 0, none⟩) (n + XS.length) q)) (w.drew.alloc (.cells ((ds ++ cs).toArray ++ Builtin.zeroCells zv.cells (q - (n + XS.length))) e)) := by
        intro hr
        obtain ⟨q, hq, hrun⟩ := run_append_out (P := P) (w := w) (ty := o.type) (B := some A) hu hd' hd hz hzv hb0 hL hcsd hfirst' hr hby'
        refine ⟨q, hq, exec a w _ _ ?_⟩
        rw [hX, hrun]; simp
      have hlenS : (ss ++ XS).length = n + XS.length := by rw [List.length_append, hssl]
      cases hcap : (c != 0 && decide (c ≤ n + XS.length)) with
      | true =>
        rw [hcap] at happ
        simp only [Bool.and_eq_true, bne_iff_ne, decide_eq_true_eq] at hcap
        obtain ⟨rfl, rfl⟩ := Prod.mk.inj (Option.some.inj happ)
        have hr : ¬ n + XS.length ≤ C := by rcases hc' with h0 | h0; exact absurd h0 hcap.1; omega
        obtain ⟨q, hq, hrun⟩ := grow hr
        rw [hrun, Oper.upon_value]
        obtain ⟨L', g1, g2, g3⟩ := grown_rel r (e := e) (zc := zv.cells.toList) hFD (by rw [Array.length_toList]; exact zsz) (by rw [hlenS]; exact hq)
        simp only [Array.toArray_toList, hlenS] at g1 g3
        exact hn _ _ L' lam (.inr (.of g1)) g2 (List.prefix_refl _) g3
      | false =>
        rw [hcap] at happ
        simp only [cond_false] at happ
        split at happ
        case h_2 => cases happ
        rename_i ob hob
        cases hrw : ob.rw with
        | false => rw [hrw] at happ; cases happ
        | true =>
        rw [hrw] at happ
        obtain ⟨rfl, rfl⟩ := Prod.mk.inj (Option.some.inj happ)
        have obr := r.rel.obj l ob s hob hl
        by_cases hr : n + XS.length ≤ C
        · -- in place
          have hC : C ≠ 0 := by omega
          have hAe := hA.resolve_left hC
          obtain ⟨bc, ty, fr, hh, hbs, hfr⟩ := obr.own hrw
          have hroom := room (by rw [obr.rw]; exact hrw)
          have hstep : (i + n) * e' + XS.length * e' ≤ (i + C) * e' := by rw [← Nat.add_mul]; exact Nat.mul_le_mul_right _ (by omega)
          have hstep2 : (i + n) * e' = i * e' + n * e' := Nat.add_mul _ _ _
          have hone' : ∀ V ∈ cs, V.oneCell' = true := hF.one hone
          have hrun := run_store_cells P s.blk (s.base + i * e' + n * e') ty fr cs 0 bc w hh hfr (by rw [Nat.add_zero, hF.2.1, hbs]; omega) hone'
          rw [Nat.add_zero] at hrun
          have hrun' : (storeCells ⟨s.blk, s.base + i * e' + n * e', none⟩ cs 0).run P w = .ok () (w.setRow s.blk (setRange bc.toList (s.base + i * e' + n * e') cs).toArray) := hrun
          have hin := run_append_in (P := P) (w := w) (ty := o.type) (A := A) (C := C) hu hd' hd hz hL hcs hr (by rw [hAe, add_addr]; exact hrun')
          rw [exec a w _ _ (by rw [hX]; exact hin), Oper.upon_value]
          clear hin hrun hrun'
          have hbl : bc.toList.length = s.bsz := by rw [Array.length_toList]; exact hbs
          have hfit : s.base + i * e' + n * e' + cs.length ≤ bc.toList.length := by rw [hbl, hF.2.1]; omega
          have T : Turns w (w.setRow s.blk (setRange bc.toList (s.base + i * e' + n * e') cs).toArray) s.blk := turns_setRow _
          have hheap := setRow_heap w s.blk bc (setRange bc.toList (s.base + i * e' + n * e') cs).toArray ty fr hh
          have hle := Lay.le_set (L := L) (r.rel.unl st.h.n (Nat.le_refl _)) ⟨s.blk, s.base + i * e', e', s.bsz, true⟩
          have hsl : (setRange bc.toList (s.base + i * e' + n * e') cs).length = s.bsz := by rw [setRange_length hfit, hbl]
          have ho' : ObjRel (L.set st.h.n ⟨s.blk, s.base + i * e', e', s.bsz, true⟩) (w.setRow s.blk (setRange bc.toList (s.base + i * e' + n * e') cs).toArray) ⟨s.blk, s.base + i * e', e', s.bsz, true⟩ ⟨ss ++ XS, e', true⟩ := by
            refine ⟨rfl, rfl, by rw [T.size]; exact obr.lt, fun k row hk => (hFD.mono hle).len k row hk, fun k row hk j v hj => ?_, fun _ => ⟨_, ty, fr, hheap, by rw [List.size_toArray]; exact hsl, by rw [List.size_toArray, hsl, ← hbs]; exact hfr⟩⟩
            obtain ⟨V, a1, a2⟩ := (hFD.mono hle).2.2 k row hk j v hj
            refine ⟨V, ?_, a2⟩
            have hdl : ds.length = n * e' := by rw [hD.2.1, hssl]
            unfold World.cell?
            simp only [hheap, Option.isSome_none, Bool.false_eq_true, if_false, List.getElem?_toArray]
            rw [setRange_get hfit]
            by_cases hk1 : k * e' + j < ds.length
            · rw [List.getElem?_append_left hk1] at a1
              rw [if_pos (by omega)]
              have := hdc _ V a1
              unfold World.cell? at this
              simp only [hh, Option.isSome_none, Bool.false_eq_true, if_false] at this
              rw [Array.getElem?_toList]
              rw [show s.base + i * e' + k * e' + j = s.base + i * e' + (k * e' + j) from by omega]; exact this
            · rw [List.getElem?_append_right (by omega)] at a1
              have := (List.getElem?_eq_some_iff.1 a1).1
              rw [if_neg (by omega), if_pos (by omega), show s.base + i * e' + k * e' + j - (s.base + i * e' + n * e') = k * e' + j - ds.length from by omega]; exact a1
          obtain ⟨g1, g2⟩ := r.rehome (s' := ⟨s.blk, s.base + i * e', e', s.bsz, true⟩) (o' := ⟨ss ++ XS, e', true⟩) hob hl hrw rfl rfl T ho'
          refine hn _ _ _ lam (.inr (.of (VRel.slice (s := ⟨s.blk, s.base + i * e', e', s.bsz, true⟩) (if_pos rfl) rfl hr (.inr ?_) (fun _ => ?_) (.inl rfl)))) g2 (List.prefix_refl _) g1
          · rw [hAe]; simp
          · show s.base + i * e' + (0 + C) * e' ≤ s.bsz
            rw [Nat.zero_add]
            rw [Nat.add_mul] at hroom; omega
        · obtain ⟨q, hq, hrun⟩ := grow hr
          rw [hrun, Oper.upon_value]
          -- the old object is dead beside it
          obtain ⟨L', g1, g2, g3⟩ := grown_rel (r.kill l) (e := e) (zc := zv.cells.toList) hFD (by rw [Array.length_toList]; exact zsz) (by rw [hlenS]; exact hq)
          simp only [Array.toArray_toList, hlenS] at g1 g3
          exact hn _ _ L' lam (.inr (.of g1)) ⟨g2.n, g2.lay⟩ (List.prefix_refl _) g3
    · cases happ
end
end Go.Abs
