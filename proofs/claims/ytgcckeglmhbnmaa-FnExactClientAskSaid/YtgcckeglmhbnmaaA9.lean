/- append, copy, make, slice literals: sound. -/
import Derived.Test.YtgcckeglmhbnmaaA8
namespace Go.Abs

section
variable {P : Program} {w : World}

theorem run_append_in {t t' e ty : TypeId} {d : TypeDesc} {z n m C : Nat} {A : Addr} {X : Value} {cs : Array Value} {w' : World} (ht : P.underlying t = some (.slice e)) (ht' : P.underlying t' = some d) (hd : d = .string ∨ ∃ e', d = .slice e') (hz : szOf P e = some z)
    (hlen : ∀ w, (Builtin.lenOf X).run P w = .ok m w) (hcs : (Builtin.firstCells z m X).run P w = .ok cs w) (hroom : n + m ≤ C) (hst : (storeCells (A.add (n * z)) cs.toList).run P w = .ok () w') :
    (Builtin.append_ #[t, t'] ty #[.slice (some A) n C, X]).run P w = .ok (.slice (some A) (n + m) C) w' := by
  rcases hd with rfl | ⟨e', rfl⟩ <;> simp [Builtin.append_, run_underlying ht, run_underlying ht', size_run hz, hlen, hcs, hroom, hst]

theorem run_append_nil' {t t' e ty : TypeId} {d : TypeDesc} {z m : Nat} {X : Value} {cs : Array Value} (ht : P.underlying t = some (.slice e)) (ht' : P.underlying t' = some d) (hd : d = .string ∨ ∃ e', d = .slice e') (hz : szOf P e = some z)
    (hlen : ∀ w, (Builtin.lenOf X).run P w = .ok m w) (hcs : (Builtin.firstCells z m X).run P w = .ok cs w) (hroom : m = 0) :
    (Builtin.append_ #[t, t'] ty #[.slice none 0 0, X]).run P w = .ok (.slice none 0 0) w := by
  subst hroom
  rcases hd with rfl | ⟨e', rfl⟩ <;> simp [Builtin.append_, run_underlying ht, run_underlying ht', size_run hz, hlen, hcs]

set_option maxHeartbeats 1000000 in
theorem run_append_out {t t' e ty : TypeId} {d : TypeDesc} {z n m C : Nat} {B : Option Addr} {X zv : Value} {cs ds : Array Value} (ht : P.underlying t = some (.slice e)) (ht' : P.underlying t' = some d) (hd : d = .string ∨ ∃ e', d = .slice e') (hz : szOf P e = some z)
    (hzv : zeroOf P e = some zv) (hb0 : 0 < bytesOf P e) (hlen : ∀ w, (Builtin.lenOf X).run P w = .ok m w) (hcs : (Builtin.firstCells z m X).run P w.drew = .ok cs w.drew) (hds : (Builtin.firstCells z n (.slice B n C)).run P w.drew = .ok ds w.drew)
    (hroom : ¬ n + m ≤ C) (hby : (n + m) * bytesOf P e ≤ 140737488355328) :
    ∃ q, n + m ≤ q ∧ (Builtin.append_ #[t, t'] ty #[.slice B n C, X]).run P w = .ok (.slice (some ⟨w.heap.size, 0, none⟩) (n + m) q) (w.drew.alloc (.cells (ds ++ cs ++ Builtin.zeroCells zv.cells (q - (n + m))) e)) := by
  have hbig : n + m ≤ 140737488355328 := Nat.le_trans (Nat.le_mul_of_pos_right _ hb0) hby
  have hg := growslice_fits (need := n + m) (old := C) (bytes := bytesOf P e) (by omega) hby
  obtain ⟨ti, hti, hbt⟩ : ∃ ti, P.info? e = some ti ∧ ti.bytes = bytesOf P e := by
    unfold szOf at hz
    cases hi : P.info? e with
    | none => rw [hi] at hz; cases hz
    | some ti => exact ⟨ti, rfl, by simp [bytesOf, hi]⟩
  refine ⟨n + m + w.tape w.drawn (.appendCap (n + m) C e) % (2 ^ 63 - (n + m)), Nat.le_add_right _ _, ?_⟩
  have h2 : ¬ Builtin.nextslicecap (n + m) C * ti.bytes > 2 ^ 48 := by rw [hbt]; omega
  have h3 : ti.bytes ≠ 0 := by omega
  have ask : ∀ (b : Nat) (w : World), (askRoom b).run P w = .ok () w := by
    intro b w; unfold askRoom; split <;> rfl
  rcases hd with rfl | ⟨e', rfl⟩ <;> simp [Builtin.append_, run_underlying ht, run_underlying ht', size_run hz, hlen, hroom, typeInfo, hti, h2, h3, Question.forced, Question.cut, ask, hcs, hds, zero_run hzv, run_newRow']

theorem firstCells_drew {z n : Nat} {X : Value} {cs : Array Value} (h : (Builtin.firstCells z n X).run P w = .ok cs w) (hX : ∃ (A : Addr) (l c : Nat) (vs : List Value), X = .slice (some A) l c ∧ vs.length = n * z ∧ (∀ (j : Nat) (v : Value), vs[j]? = some v → w.cell? (A.add j) = some v) ∧ cs = vs.toArray) :
    (Builtin.firstCells z n X).run P w.drew = .ok cs w.drew := by
  obtain ⟨A, l, c, vs, rfl, hl, hv, rfl⟩ := hX
  exact run_firstCells_some (P := P) w.drew z n A l c vs hl hv
end

/-- What append and copy read. -/
theorem rowsV_run {P : Program} {L : Lay} {F R : Nat → Prop} {w0 w : World} {h : AHeap} (r : Rel L F R w0 w h) {x X : Value} {xs : List (List Value)} {z : Nat} (hx : VRel L x X) (hr : rowsV h x = some xs) (hz : ∀ row ∈ xs, row.length = z) :
    ∃ cs : List Value, FRel L xs z cs ∧ (∀ w, (Builtin.lenOf X).run P w = .ok xs.length w) ∧ (∀ n, (Builtin.firstCells z xs.length X).run P { w with drawn := n } = .ok cs.toArray { w with drawn := n }) := by
  unfold rowsV at hr
  split at hr
  · rename_i s
    cases hx
    obtain rfl := Option.some.inj hr
    refine ⟨s.data.toList.map fun b => .int .u8 b.toNat, ⟨hz, ?_, ?_⟩, ?_, ?_⟩
    · by_cases h0 : s.data.toList = []
      · simp [bytesRows, h0]
      · obtain ⟨b, l, e⟩ := List.exists_cons_of_ne_nil h0
        have : z = 1 := by
          have := hz [.int .u8 b.toNat] (by simp [bytesRows, e])
          simpa using this.symm
        subst this; simp [bytesRows]
    · intro i row hi j v hj
      simp only [bytesRows, List.getElem?_map, Option.map_eq_some_iff] at hi
      obtain ⟨b, hb, rfl⟩ := hi
      have z1 : z = 1 := by
        have := hz [.int .u8 b.toNat] (by simp only [bytesRows, List.mem_map]; exact ⟨b, List.mem_of_getElem? hb, rfl⟩)
        simpa using this.symm
      subst z1
      cases j with
      | zero => simp at hj; subst hj; exact ⟨_, by rw [Nat.mul_one, Nat.add_zero, List.getElem?_map, hb]; rfl, .int _ _⟩
      | succ j => simp at hj
    · intro w; simp [Builtin.lenOf, bytesRows]
    · intro n
      have : s.size = (bytesRows s).length := by simp [bytesRows]
      have e : s.extract 0 (bytesRows s).length = s := by rw [← this]; simp
      simp only [Builtin.firstCells, e, Sem.run_pure]
      congr 1
      rw [← Array.toList_map, Array.toArray_toList]
  · cases hx with
    | sliceN =>
      obtain rfl := Option.some.inj hr
      exact ⟨[], ⟨hz, by simp, fun i row hi => by simp at hi⟩, fun w => by simp [Builtin.lenOf], fun n => by simp [Builtin.firstCells]⟩
    | slice hL he hn ha room hc =>
      rename_i l i e n c C s A hns
      obtain ⟨hes, hlen, cs, hF, hcell⟩ := r.rows hr hL
      by_cases h0 : xs = []
      · subst h0
        have hn0 : n = 0 := by simpa using hlen.symm
        refine ⟨[], ⟨hz, by simp, fun i row hi => by simp at hi⟩, fun w => by simp [Builtin.lenOf, hn0], fun q => ?_⟩
        have := run_firstCells_some (P := P) { w with drawn := q } z 0 A n C [] (by simp) (by simp)
        simpa using this
      · obtain ⟨row, rest, e0⟩ := List.exists_cons_of_ne_nil h0
        have ez : e = z := by
          have h1 := hF.1 row (by rw [e0]; simp)
          have h2 := hz row (by rw [e0]; simp)
          omega
        subst ez
        have hC : C ≠ 0 := by
          have : 0 < xs.length := by rw [e0]; simp
          omega
        have hA := ha.resolve_left hC
        refine ⟨cs, hF, fun w => by simp [Builtin.lenOf, hlen], fun q => ?_⟩
        refine run_firstCells_some (P := P) { w with drawn := q } e xs.length A n C cs hF.2.1 fun j v hj => ?_
        rw [hA, add_addr]
        exact hcell j v hj
    | _ => first | cases hr | (unfold AHeap.rowsOf at hr; cases hr)

/-- A state over a new object in an old block, the old object being dead. -/
theorem StRel.rehome {L : Lay} {F R : Nat → Prop} {w0 w w' : World} {lam : List Nat} {nt : Nat} {st : St} {T : Array Value} (r : StRel L F R w0 w lam nt st T) {l : Nat} {o o' : AObj} {s s' : Site} (hl : st.h.get l = some o) (hs : L l = some s)
    (hrw : o.rw = true) (hrw' : o'.rw = true) (hb : s'.blk = s.blk) (t : Turns w w' s.blk) (ho : ObjRel (L.set st.h.n s') w' s' o') :
    StRel (L.set st.h.n s') F R w0 w' lam nt { st with h := (st.h.put l none).push o' } T ∧ Ext L st.h (L.set st.h.n s') ((st.h.put l none).push o') := by
  have hk := r.rel.kill l
  have hno : ∀ x y q, (st.h.put l none).get x = some y → L x = some q → q.blk ≠ s'.blk := by
    intro x y q h1 h2 e
    by_cases ex : x = l
    · subst ex; rw [AHeap.get_put_eq] at h1; cases h1
    · rw [AHeap.get_put_ne ex] at h1
      exact r.rel.apart l x o y s q hl h1 hs h2 hrw (Ne.symm ex) (by rw [e, hb])
  have hlam : s.blk ∉ lam := r.lrw l o s hl hs hrw
  have hle := Lay.le_set (L := L) (r.rel.unl st.h.n (Nat.le_refl _)) s'
  have pa := hk.pushAt (s := s') hrw' (by rw [hb]; exact r.rel.free l o s hl hs hrw) hno (by rw [hb]; exact t) (by exact ho)
  refine ⟨⟨pa, r.tsz, r.llen, r.lnd, r.lF, ?_, ?_, fun i => (r.slots i).mono hle (List.prefix_refl _)⟩, ⟨Nat.le_succ _, fun x hx => if_neg (by have : x < st.h.n := hx; omega)⟩⟩
  · intro x y q h1 h2 h3 hm
    by_cases e : x = st.h.n
    · subst e
      obtain rfl := Option.some.inj ((if_pos rfl).symm.trans h2)
      exact hlam (hb ▸ hm)
    · have h1' : (st.h.put l none).get x = some y := (AHeap.get_push_ne (h := st.h.put l none) e).symm.trans h1
      by_cases ex : x = l
      · subst ex; rw [AHeap.get_put_eq] at h1'; cases h1'
      · rw [AHeap.get_put_ne ex] at h1'
        exact r.lrw x y q h1' ((if_neg e).symm.trans h2) h3 hm
  · intro i b row h1 h2
    obtain ⟨c, q, a, d, f⟩ := r.lblk i b row h1 h2
    exact ⟨c, q, (t.block _ (fun e => hlam (e ▸ List.mem_of_getElem? h1))).trans a, d, fun j v hv => let ⟨V, x, y⟩ := f j v hv; ⟨V, x, y.mono hle⟩⟩

end Go.Abs
