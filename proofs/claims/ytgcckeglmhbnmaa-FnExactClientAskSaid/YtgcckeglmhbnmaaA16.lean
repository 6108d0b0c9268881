/- All orders of a region come to what the walked order comes to: the invariant, and one operation whose turn comes late. -/
import Derived.Test.YtgcckeglmhbnmaaA15
namespace Go.Abs

/-- An object that no block stands for yet. -/
theorem Rel.ghost {L : Lay} {F R : Nat → Prop} {w0 w : World} {h : AHeap} (r : Rel L F R w0 w h) (o : AObj) : Rel L F R w0 w (h.push o) := by
  have key : ∀ {x y s}, (h.push o).get x = some y → L x = some s → h.get x = some y := fun {x y s} h1 h2 => by
    by_cases e : x = h.n
    · subst e; rw [r.unl h.n (Nat.le_refl _)] at h2; cases h2
    · rw [AHeap.get_push_ne e] at h1; exact h1
  refine ⟨r.keeps, r.inF, r.inR, fun l hl => ?_, fun l hl => r.unl l (Nat.le_of_succ_le hl), fun l o s a b => r.obj l o s (key a b) b, fun l o s a b => r.free l o s (key a b) b, fun l o s a b => r.ro l o s (key a b) b, fun l l' o o' s s' a a' b b' => r.apart l l' o o' s s' (key a b) (key a' b') b b'⟩
  have hl' : h.n + 1 ≤ l := hl
  rw [AHeap.get_push_ne (by omega)]; exact r.fresh l (by omega)

/-- The block that stands for it is made. -/
theorem Rel.born {L : Lay} {F R : Nat → Prop} {w0 w : World} {h : AHeap} (r : Rel L F R w0 w h) {l : Nat} {o : AObj} {cs : Array Value} {T : TypeId} (hl : h.get l = some o) (hL : L l = none) (hn : l < h.n) (hrw : o.rw = true)
    (hlen : ∀ (i : Nat) (row : List Value), o.rows[i]? = some row → row.length = o.esz)
    (hcell : ∀ (i : Nat) (row : List Value), o.rows[i]? = some row → ∀ (j : Nat) (v : Value), row[j]? = some v → ∃ V, cs[i * o.esz + j]? = some V ∧ VRel L v V) :
    Rel (L.set l ⟨w.heap.size, 0, o.esz, cs.size, o.rw⟩) F R w0 (w.alloc (.cells cs T (0, 0))) h := by
  have hle := Lay.le_set (L := L) hL ⟨w.heap.size, 0, o.esz, cs.size, o.rw⟩
  have hnew : (w.alloc (.cells cs T (0, 0))).heap[w.heap.size]? = some (.cells cs T (0, 0)) := alloc_new w _
  have hsz : (w.alloc (.cells cs T (0, 0))).heap.size = w.heap.size + 1 := alloc_size w _
  have key : ∀ x y q, h.get x = some y → (L.set l ⟨w.heap.size, 0, o.esz, cs.size, o.rw⟩) x = some q →
      (x = l ∧ y = o ∧ q = ⟨w.heap.size, 0, o.esz, cs.size, o.rw⟩) ∨ (x ≠ l ∧ L x = some q) := by
    intro x y q h1 h2
    unfold Lay.set at h2
    by_cases e : x = l
    · subst e; rw [if_pos rfl] at h2; left; exact ⟨rfl, Option.some.inj (h1.symm.trans hl), (Option.some.inj h2).symm⟩
    · rw [if_neg e] at h2; right; exact ⟨e, h2⟩
  refine ⟨r.keeps.alloc r.inF _, r.inF, r.inR, r.fresh, ?_, ?_, ?_, ?_, ?_⟩
  · intro x hx
    show (if x = l then _ else L x) = none
    rw [if_neg (by omega)]; exact r.unl x hx
  · intro x y q h1 h2
    rcases key x y q h1 h2 with ⟨rfl, rfl, rfl⟩ | ⟨_, b⟩
    · refine ⟨rfl, rfl, by rw [hsz]; exact Nat.lt_succ_self _, hlen, ?_, fun _ => ⟨cs, T, (0, 0), hnew, rfl, .inl (Nat.le_refl _)⟩⟩
      intro i row hi j v hv
      obtain ⟨V, c, d⟩ := hcell i row hi j v hv
      refine ⟨V, ?_, d.mono hle⟩
      show (w.alloc (.cells cs T (0, 0))).cell? ⟨w.heap.size, 0 + i * y.esz + j, none⟩ = some V
      rw [Nat.zero_add]
      unfold World.cell?; rw [hnew]; simpa using c
    · exact ((r.obj x y q h1 b).mono hle).world (by rw [hsz]; omega) (alloc_old w _ (r.obj x y q h1 b).lt)
  · intro x y q h1 h2 hx hf
    rcases key x y q h1 h2 with ⟨rfl, rfl, rfl⟩ | ⟨_, b⟩
    · have h3 := r.inF _ hf
      have h4 := r.keeps.size
      dsimp only at h3; omega
    · exact r.free x y q h1 b hx hf
  · intro x y q h1 h2 hx
    rcases key x y q h1 h2 with ⟨rfl, rfl, rfl⟩ | ⟨_, b⟩
    · rw [hrw] at hx; cases hx
    · exact r.ro x y q h1 b hx
  · intro x x' y y' q q' h1 h1' h2 h2' hx hne he
    rcases key x y q h1 h2 with ⟨rfl, rfl, rfl⟩ | ⟨_, b⟩
    · rcases key x' y' q' h1' h2' with ⟨rfl, rfl, rfl⟩ | ⟨_, b'⟩
      · exact hne rfl
      · have := (r.obj x' y' q' h1' b').lt; dsimp only at he; omega
    · rcases key x' y' q' h1' h2' with ⟨rfl, rfl, rfl⟩ | ⟨_, b'⟩
      · have := (r.obj x y q h1 b).lt; dsimp only at he; omega
      · exact r.apart x x' y y' q q' h1 h1' b b' hx hne he

theorem StRel.reslot {L : Lay} {F R : Nat → Prop} {w0 w : World} {lam : List Nat} {nt : Nat} {t1 t2 : Nat → Value} {S : List (List Value)} {h : AHeap} {T : Array Value} (r : StRel L F R w0 w lam nt ⟨t1, S, h⟩ T) (hs : ∀ i, SlotRel L lam (t2 i) T[i]?) : StRel L F R w0 w lam nt ⟨t2, S, h⟩ T :=
  ⟨r.rel, r.tsz, r.llen, r.lnd, r.lF, r.lrw, r.lblk, hs⟩

theorem StRel.ghost {L : Lay} {F R : Nat → Prop} {w0 w : World} {lam : List Nat} {nt : Nat} {t : Nat → Value} {S : List (List Value)} {h : AHeap} {T : Array Value} (r : StRel L F R w0 w lam nt ⟨t, S, h⟩ T) (o : AObj) : StRel L F R w0 w lam nt ⟨t, S, h.push o⟩ T :=
  ⟨r.rel.ghost o, r.tsz, r.llen, r.lnd, r.lF, fun l x s h1 h2 h3 => r.lrw l x s (by
    by_cases e : l = h.n
    · subst e; rw [r.rel.unl h.n (Nat.le_refl _)] at h2; cases h2
    · exact (AHeap.get_push_ne e).symm.trans h1) h2 h3, r.lblk, r.slots⟩

theorem StRel.born {L : Lay} {F R : Nat → Prop} {w0 w : World} {lam : List Nat} {nt : Nat} {st : St} {T : Array Value} (r : StRel L F R w0 w lam nt st T) {l : Nat} {o : AObj} {cs : Array Value} (ty : TypeId) (hl : st.h.get l = some o) (hL : L l = none) (hn : l < st.h.n) (hrw : o.rw = true)
    (hlen : ∀ (i : Nat) (row : List Value), o.rows[i]? = some row → row.length = o.esz)
    (hcell : ∀ (i : Nat) (row : List Value), o.rows[i]? = some row → ∀ (j : Nat) (v : Value), row[j]? = some v → ∃ V, cs[i * o.esz + j]? = some V ∧ VRel L v V) :
    StRel (L.set l ⟨w.heap.size, 0, o.esz, cs.size, o.rw⟩) F R w0 (w.alloc (.cells cs ty (0, 0))) lam nt st T := by
  have hle := Lay.le_set (L := L) hL ⟨w.heap.size, 0, o.esz, cs.size, o.rw⟩
  have s := r.skip (.cells cs ty (0, 0))
  refine ⟨r.rel.born hl hL hn hrw hlen hcell, r.tsz, r.llen, r.lnd, r.lF, ?_, ?_, fun i => (r.slots i).mono hle (List.prefix_refl _)⟩
  · intro x y q h1 h2 h3 hm
    by_cases e : x = l
    · subst e
      obtain rfl := Option.some.inj ((if_pos rfl).symm.trans h2)
      exact Nat.lt_irrefl _ (r.lam_lt hm)
    · exact r.lrw x y q h1 ((if_neg e).symm.trans h2) h3 hm
  · intro i b row h1 h2
    obtain ⟨c, t, a, d, f⟩ := s.lblk i b row h1 h2
    exact ⟨c, t, a, d, fun j v hv => let ⟨V, x, y⟩ := f j v hv; ⟨V, x, y.mono hle⟩⟩

/-- Is an operation carried out? The test that its guard names has been decided. -/
def GuardIs (ops : Array Oper) (o : Oper) (t : Nat → Value) (w : Bool) : Prop :=
  match o.guard with
  | none => w = true
  | some (j, want) => match (ops[j]?).bind (·.dst) with
    | some d => match t d with
      | .bool q => w = (want == q)
      | .complex .f64 _ _ => w = false
      | _ => False
    | none => False

theorem guard_is {ops : Array Oper} {o : Oper} {st : St} {k : St → Bool → Prop} (h : vcGuard ops o st k) : ∃ w, GuardIs ops o st.t w ∧ k st w := by
  unfold vcGuard at h
  unfold GuardIs
  split at h
  · rename_i hg; exact ⟨true, by simp [hg], h⟩
  · rename_i j w hg
    split at h
    case h_2 => exact h.elim
    rename_i d hd
    split at h
    · rename_i q hq
      have e : ∀ v, st.t d = v → { st with t := upd st.t d v } = st := fun v hv => by
        have : upd st.t d v = st.t := funext (upd_same hv)
        rw [this]
      rcases bs_cases h with ⟨rfl, h⟩ | ⟨rfl, h⟩
      · rw [e _ hq] at h; exact ⟨w == true, by simp [hg, hd, hq], h⟩
      · rw [e _ hq] at h; exact ⟨w == false, by simp [hg, hd, hq], h⟩
    · rename_i x y hq; exact ⟨false, by simp [hg, hd, hq], h⟩
    · exact h.elim

theorem guard_looks {ops : Array Oper} {o : Oper} {j : Nat} {want : Bool} {d : Nat} (hg : o.guard = some (j, want)) (hd : (ops[j]?).bind (·.dst) = some d) : d ∈ o.looksAt ops := by
  unfold Oper.looksAt; rw [hg]; dsimp only; rw [hd]; simp

theorem GuardIs.wanted {ops : Array Oper} {o : Oper} {t : Nat → Value} {w : Bool} (h : GuardIs ops o t w) {L : Lay} {lam : List Nat} {a : Act} (kn : ∀ d ∈ o.looksAt ops, SlotRel L lam (t d) a.tmps[d]?) : Region.wanted o (yielded ops a.tmps) = w := by
  unfold GuardIs at h
  split at h
  · rename_i hg; subst h; simp [Region.wanted, hg]
  · rename_i j want hg
    split at h
    case h_2 => exact h.elim
    rename_i d hd
    have k := kn d (guard_looks hg hd)
    split at h
    · rename_i q hq
      have e : a.tmps[d]? = some (.bool q) := by
        rcases k with h1 | ⟨X, h1, h2⟩
        · rw [hq] at h1; cases h1
        · rw [hq] at h2; rw [h1, h2.bool]
      simp only [Region.wanted, hg, yielded, hd, Option.bind_some, e]
      subst h
      cases want <;> cases q <;> rfl
    · rename_i x y hq
      have e : a.tmps[d]? = some undef := by
        rcases k with h1 | ⟨X, h1, h2⟩
        · rw [hq] at h1; cases h1
        · rw [hq] at h2; rw [h1]; exact congrArg some h2
      simp only [Region.wanted, hg, yielded, hd, Option.bind_some, e, undef]
      exact h.symm
    · exact h.elim

theorem GuardIs.congr {ops : Array Oper} {o : Oper} {t t' : Nat → Value} {w : Bool} (h : GuardIs ops o t w) (e : ∀ d ∈ o.looksAt ops, t' d = t d) : GuardIs ops o t' w := by
  unfold GuardIs at *
  split at h
  · exact h
  · rename_i j want hg
    split at h
    case h_2 => exact h.elim
    rename_i d hd
    rw [e d (guard_looks hg hd)]; exact h

theorem GuardIs.det {ops : Array Oper} {o : Oper} {t : Nat → Value} {w w' : Bool} (h : GuardIs ops o t w) (h' : GuardIs ops o t w') : w = w' := by
  unfold GuardIs at *
  split at h
  · rename_i hg; rw [hg] at h'; exact h.trans h'.symm
  · rename_i j want hg
    rw [hg] at h'
    dsimp only at h'
    split at h
    case h_2 => exact h.elim
    rename_i d hd
    rw [hd] at h'
    dsimp only at h'
    split at h
    · rename_i hq; rw [hq] at h'; exact h.trans h'.symm
    · rename_i hq; rw [hq] at h'; exact h.trans h'.symm
    · exact h.elim

/-- What is known of a step whose turn may come later. -/
def Owes (P : Program) (nt : Nat) (ops : Array Oper) (n0 : Nat) (x : Stp) (st : St) : Prop :=
  ∃ o w, ops[x.1]? = some o ∧ GuardIs ops o st.t w ∧
    (w = false → ∀ d, o.dst = some d → st.t d = skipV) ∧
    (w = true → ∃ v, (∀ d, o.dst = some d → st.t d = v) ∧
      ((x.2.1 = 0 ∧ PSem P o (only (o.looksAt ops) st.t) v) ∨
       (x.2.1 = 1 ∧ OpSem P nt o ⟨only (o.looksAt ops) st.t, st.S, st.h⟩ v ⟨only (o.looksAt ops) st.t, st.S, st.h⟩) ∨
       (x.2.1 = 2 ∧ ∃ t z l d, o.op = .alloc t ∧ o.dst = some d ∧ zeroOf P t = some z ∧ plain z = true ∧ v = .pointer (some ⟨l, 0, some 0⟩) ∧ st.h.get l = some ⟨[cellsL z], (cellsL z).length, true⟩ ∧ n0 ≤ l ∧ l < st.h.n)))

structure J (P : Program) (nt : Nat) (ops : Array Oper) (n0 : Nat) (L0 : Lay) (F R : Nat → Prop) (w0 : World) (done owed : List Stp) (st : St) (listed : Array Bool) (L : Lay) (lam : List Nat) (a : Act) (w : World) : Prop where
  own : ∀ x ∈ owed, x ∈ done
  nd : owed.Nodup
  li : ∀ x ∈ done, x ∉ owed → listed.getD x.1 false = true
  il : ∀ i, listed.getD i false = true → ∃ x ∈ done, x ∉ owed ∧ x.1 = i
  sz : listed.size = ops.size
  dc : ∀ z x, listed.getD z false = true → waits ops z x = true → listed.getD x false = true
  ow : ∀ x ∈ owed, Owes P nt ops n0 x st
  gh : ∀ x ∈ owed, x.2.1 = 2 → ∀ d l, dstAt ops x.1 = some d → st.t d = .pointer (some ⟨l, 0, some 0⟩) → L l = none
  gd : ∀ x ∈ owed, ∀ y ∈ owed, x.1 ≠ y.1 → x.2.1 = 2 → y.2.1 = 2 → ∀ d d' l, dstAt ops x.1 = some d → dstAt ops y.1 = some d' → st.t d = .pointer (some ⟨l, 0, some 0⟩) → st.t d' ≠ .pointer (some ⟨l, 0, some 0⟩)
  rel : StRel L F R w0 w lam nt ⟨hide ops owed st.t, st.S, st.h⟩ a.tmps
  df : a.defers = []
  base : ∀ l, l < n0 → L l = L0 l
  n : n0 ≤ st.h.n

section
variable {P : Program} {nt : Nat} {ops : Array Oper} {n0 : Nat} {L0 : Lay} {F R : Nat → Prop} {w0 : World} {done owed : List Stp} {st : St} {listed : Array Bool} {L : Lay} {lam : List Nat} {a : Act} {w : World}

theorem hide_no {t : Nat → Value} {i : Nat} (h : ∀ y ∈ owed, dstAt ops y.1 ≠ some i) : hide ops owed t i = t i := by
  unfold hide
  rw [show owed.any (fun x => dstAt ops x.1 == some i) = false from List.any_eq_false.2 fun y hy => by simpa using h y hy]; rfl
theorem hide_yes {t : Nat → Value} {i : Nat} {y : Stp} (hy : y ∈ owed) (h : dstAt ops y.1 = some i) : hide ops owed t i = undef := by
  unfold hide
  rw [show owed.any (fun x => dstAt ops x.1 == some i) = true from List.any_eq_true.2 ⟨y, hy, by simpa using h⟩]; rfl

theorem J.notListed (j : J P nt ops n0 L0 F R w0 done owed st listed L lam a w) (dn : Dn nt ops done) {x : Stp} (hx : x ∈ owed) : ¬ listed.getD x.1 false = true := fun h => by
  obtain ⟨y, hy, hn, e⟩ := j.il _ h
  exact hn (dn.inj y hy x (j.own x hx) e ▸ hx)

/-- An operation all of whose forerunners are listed sees what it looks at. -/
theorem J.sees (j : J P nt ops n0 L0 F R w0 done owed st listed L lam a w) (dn : Dn nt ops done) {ls : List Nat} (hls : ∀ y ∈ owed, ∀ d, dstAt ops y.1 = some d → d ∉ ls) : ∀ i, SlotRel L lam (only ls st.t i) a.tmps[i]? := by
  intro i
  unfold only
  cases h : ls.contains i with
  | false => exact .inl rfl
  | true =>
    have hi := List.contains_iff_mem.1 h
    have := j.rel.slots i
    dsimp only at this
    rw [hide_no (fun y hy e => hls y hy i e hi)] at this
    exact this

theorem J.looksFree (j : J P nt ops n0 L0 F R w0 done owed st listed L lam a w) (dn : Dn nt ops done) {x : Stp} (hx : x ∈ done) {o : Oper} (ho : ops[x.1]? = some o) (hp : ∀ z, waits ops x.1 z = true → listed.getD z false = true) :
    ∀ y ∈ owed, ∀ d, dstAt ops y.1 = some d → d ∉ o.looksAt ops := by
  intro y hy d hd hm
  by_cases e : y.1 = x.1
  · obtain ⟨o', h1, _, h3⟩ := dn.ex x hx
    obtain rfl := Option.some.inj (ho.symm.trans h1)
    rw [e, dstAt_eq ho] at hd
    exact h3 d hd hm
  · exact j.notListed dn hy (hp _ (dn.dat y (j.own y hy) x hx e d hd (by rw [looks_eq ho]; exact hm)))

theorem getD_set_self {i : Nat} (h : i < listed.size) : (listed.setIfInBounds i true).getD i false = true := by simp [h]

theorem set_listed {i z : Nat} (h : (listed.setIfInBounds i true).getD z false = true) : z = i ∨ listed.getD z false = true := by
  by_cases e : i = z
  · exact .inl e.symm
  · rw [getD_set_ne false e] at h; exact .inr h

/-- The turn of a step comes that was walked before. -/
theorem J.turn (j : J P nt ops n0 L0 F R w0 done owed st listed L lam a w) (dn : Dn nt ops done) {x : Stp} (hx : x ∈ owed) {o : Oper} (ho : ops[x.1]? = some o) (hp : ∀ z, waits ops x.1 z = true → listed.getD z false = true)
    {L' : Lay} {lam' : List Nat} {W : World} {v V : Value} (hv : v = undef ∨ SVRel L' lam' v V) (hd : ∀ d, o.dst = some d → st.t d = v) (rel : StRel L' F R w0 W lam' nt ⟨hide ops owed st.t, st.S, st.h⟩ a.tmps)
    (hgh : ∀ y ∈ owed, y ≠ x → y.2.1 = 2 → ∀ d l, dstAt ops y.1 = some d → st.t d = .pointer (some ⟨l, 0, some 0⟩) → L' l = none) (hb : ∀ l, l < n0 → L' l = L0 l) :
    J P nt ops n0 L0 F R w0 done (owed.erase x) st (listed.setIfInBounds x.1 true) L' lam' (a.put o.dst V) W := by
  have hlt : x.1 < listed.size := by rw [j.sz]; exact (Array.getElem?_eq_some_iff.1 ho).1
  have sub : ∀ y ∈ owed.erase x, y ∈ owed ∧ y ≠ x := fun y hy => ⟨List.mem_of_mem_erase hy, fun e => by subst e; exact (List.Nodup.mem_erase_iff j.nd).1 hy |>.1 rfl⟩
  obtain ⟨o', h1, h2, h3⟩ := dn.ex x (j.own x hx)
  obtain rfl := Option.some.inj (ho.symm.trans h1)
  refine ⟨fun y hy => j.own y (sub y hy).1, j.nd.erase x, ?_, ?_, by simpa using j.sz, ?_, fun y hy => j.ow y (sub y hy).1, fun y hy => hgh y (sub y hy).1 (sub y hy).2, fun y hy z hz => j.gd y (sub y hy).1 z (sub z hz).1, ?_, by rw [put_defers]; exact j.df, hb, j.n⟩
  · intro y hy hn
    by_cases e : y = x
    · subst e; exact getD_set_self hlt
    · exact getD_set_true (j.li y hy fun hm => hn ((List.mem_erase_of_ne e).2 hm))
  · intro i hi
    rcases set_listed hi with rfl | hi
    · exact ⟨x, j.own x hx, fun hm => (sub x hm).2 rfl, rfl⟩
    · obtain ⟨y, hy, hn, e⟩ := j.il i hi
      exact ⟨y, hy, fun hm => hn (sub y hm).1, e⟩
  · intro z y hz hw
    rcases set_listed hz with rfl | hz
    · exact getD_set_true (hp y hw)
    · exact getD_set_true (j.dc z y hz hw)
  · have r := rel.put (dst := o.dst) (dOk_lt h2) hv
    refine StRel.reslot (t1 := putD (hide ops owed st.t) o.dst v) r fun i => ?_
    have hi := r.slots i
    dsimp only at hi
    by_cases hq : ∃ y ∈ owed.erase x, dstAt ops y.1 = some i
    · obtain ⟨y, hy, e⟩ := hq
      rw [hide_yes hy e]; exact .inl rfl
    · have hq' : ∀ y ∈ owed.erase x, dstAt ops y.1 ≠ some i := fun y hy e => hq ⟨y, hy, e⟩
      rw [hide_no hq']
      by_cases e : o.dst = some i
      · rw [hd i e]
        rw [e] at hi
        unfold putD upd at hi
        simp only [beq_self_eq_true, cond_true] at hi
        rw [e]; exact hi
      · have : putD (hide ops owed st.t) o.dst v i = st.t i := by
          have h0 : putD (hide ops owed st.t) o.dst v i = hide ops owed st.t i := by
            cases hdst : o.dst with
            | none => rfl
            | some d =>
              show (bif i == d then v else _) = _
              rw [show (i == d) = false from beq_eq_false_iff_ne.2 fun e' => e (by rw [hdst, e'])]; rfl
          rw [h0, hide_no]
          intro y hy
          by_cases ey : y = x
          · subst ey; rw [dstAt_eq ho]; exact e
          · exact hq' y ((List.mem_erase_of_ne ey).2 hy)
        rw [this] at hi; exact hi

theorem J.late (j : J P nt ops n0 L0 F R w0 done owed st listed L lam a w) (dn : Dn nt ops done) {x : Stp} (hx : x ∈ owed) (hp : ∀ z, waits ops x.1 z = true → listed.getD z false = true) {Q : Exit → Act → World → Prop} {K : Act → World → Prop}
    (hK : ∀ A W L' lam', J P nt ops n0 L0 F R w0 done (owed.erase x) st (listed.setIfInBounds x.1 true) L' lam' A W → K A W) : wpOp P ops Q x.1 K a w := by
  obtain ⟨o, q, ho, hw, hf, ht⟩ := j.ow x hx
  have see := j.sees dn (j.looksFree dn (j.own x hx) ho hp)
  have only_in : ∀ d ∈ o.looksAt ops, only (o.looksAt ops) st.t d = st.t d := fun d hd => by unfold only; rw [List.contains_iff_mem.2 hd]; rfl
  have hw' := hw.wanted (L := L) (lam := lam) (a := a) fun d hd => by rw [← only_in d hd]; exact see d
  unfold wpOp
  simp only [ho, hw']
  cases q with
  | false =>
    simp only [Bool.false_eq_true, if_false]
    exact hK _ _ L lam (j.turn dn hx ho hp (v := skipV) (.inr rfl) (hf rfl) j.rel (fun y hy _ => j.gh y hy) j.base)
  | true =>
    simp only [if_true]
    left
    obtain ⟨v, hd, h⟩ := ht rfl
    rcases h with ⟨_, h⟩ | ⟨_, h⟩ | ⟨hk, t, z, l, d, hop, hdst, hz, hpl, rfl, hg, hn0, hln⟩
    · obtain ⟨V, hv, hr⟩ := h L lam a ⟨see⟩
      unfold Oper.wp
      rw [hr w, Oper.upon_value]
      exact hK _ _ L lam (j.turn dn hx ho hp hv hd j.rel (fun y hy _ => j.gh y hy) j.base)
    · refine h.2 L F R w0 w lam a (j.rel.reslot see) j.df _ _ fun V W L' lam' hv hext hpre hr => ?_
      have hle := hext.le j.rel.rel.unl
      refine hK _ _ L' lam' (j.turn dn hx ho hp hv hd (hr.reslot fun i => (j.rel.slots i).mono hle hpre) ?_ ?_)
      · intro y hy _ hy2 d l hd hl
        obtain ⟨o2, q2, ho2, _, hf2, ht2⟩ := j.ow y hy
        rw [dstAt_eq ho2] at hd
        cases q2 with
        | false => rw [hf2 rfl d hd] at hl; cases hl
        | true =>
          obtain ⟨v2, hd2, h2⟩ := ht2 rfl
          rcases h2 with ⟨e, _⟩ | ⟨e, _⟩ | ⟨_, _, _, l2, _, _, _, _, _, rfl, _, _, hlt⟩
          · rw [e] at hy2; cases hy2
          · rw [e] at hy2; cases hy2
          · have := (hd2 d hd).symm.trans hl
            obtain rfl : l2 = l := by injection this with e; injection e with e; injection e
            rw [hext.lay l2 hlt]
            exact j.gh y hy hy2 d l2 (by rw [dstAt_eq ho2]; exact hd) hl
      · intro l hl
        have hl' : l < st.h.n := Nat.lt_of_lt_of_le hl j.n
        rw [hext.lay l hl']; exact j.base l hl
    · have hL := j.gh x hx hk d l (by rw [dstAt_eq ho]; exact hdst) (hd d hdst)
      have cr := cells_rel (VRel.plain (L := L) hpl)
      have hl : LRel L (cellsL z) z.cells := .of cr.1 cr.2
      have born := j.rel.born (l := l) (cs := z.cells) t hg hL hln rfl
        (fun i rw' hi => by cases i <;> simp at hi; subst hi; rfl)
        (fun i rw' hi k v hv => by
          cases i with
          | zero => simp at hi; subst hi; simpa using hl.2 k v hv
          | succ i => simp at hi)
      unfold Oper.wp
      have hrun : (execOp a.eval o).run P w = .ok (.value (.pointer (some ⟨w.heap.size, 0, none⟩))) (w.alloc (.cells z.cells t)) := by
        unfold execOp; rw [hop]; simp [Instr.alloc, zero_run hz, newVar, run_newRow']
      rw [hrun, Oper.upon_value]
      refine hK _ _ _ lam (j.turn dn hx ho hp (.inr (.of ?_)) hd born ?_ ?_)
      · have := VRel.ptr (L := L.set l ⟨w.heap.size, 0, (cellsL z).length, z.cells.size, true⟩) (l := l) (r := 0) (c := 0) (s := ⟨w.heap.size, 0, (cellsL z).length, z.cells.size, true⟩) (if_pos rfl)
        simpa using this
      · intro y hy hne hy2 d' l' hd' hl'
        have ne : l' ≠ l := fun e => by
          subst e
          exact j.gd x hx y hy (fun e => hne (dn.inj y (j.own y hy) x (j.own x hx) e.symm)) hk hy2 d d' l' (by rw [dstAt_eq ho]; exact hdst) hd' (hd d hdst) hl'
        show (if l' = l then _ else L l') = none
        rw [if_neg ne]; exact j.gh y hy hy2 d' l' hd' hl'
      · intro x' hx'
        show (if x' = l then _ else L x') = _
        rw [if_neg (by omega)]; exact j.base x' hx'
end
end Go.Abs
