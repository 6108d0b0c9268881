/- Code with loops: each loop has a specification of its own; functions. -/
import Derived.Test.YtgcckeglmhbnmaaA19
namespace Go.Abs

/-- A state told by a list of slots. -/
def look (l : List (Nat × Value)) (i : Nat) : Value := match l with
  | [] => undef
  | (j, v) :: l => bif i == j then v else look l i
structure Hd where
  l : List (Nat × Value)
  S : List (List Value)
  h : AHeap
def Hd.st (d : Hd) : St := ⟨look d.l, d.S, d.h⟩
def locK (n : Nat) (v : Value) (K : Prop) : Prop := match v with
  | .complex .f32 j _ => bs (decide (j < n)) K False
  | _ => K
def holds (st : St) (n : Nat) (K : Prop) : List (Nat × Value) → Prop
  | [] => K
  | (i, v) :: l => st.t i = v ∧ locK n v (holds st n K l)
def preS (K : Prop) : List (List Value) → List (List Value) → Prop
  | [], _ => K
  | r :: l, r' :: l' => r = r' ∧ preS K l l'
  | _ :: _, [] => False
/-- The state is at least so. -/
def fits (d : Hd) (st : St) (K : Prop) : Prop := holds st d.S.length (preS (d.h = st.h ∧ K) d.S st.S) d.l

theorem locK_out {n : Nat} {v : Value} {K : Prop} (h : locK n v K) : K ∧ ∀ j c, v = .complex .f32 j c → j < n := by
  unfold locK at h
  split at h
  · rename_i j c
    obtain ⟨h1, h⟩ := bs_false h
    exact ⟨h, fun j' c' e => by injection e with _ e _; subst e; exact of_decide_eq_true h1⟩
  · rename_i hne
    exact ⟨h, fun j c e => absurd e (hne j c)⟩
theorem holds_out {st : St} {n : Nat} {K : Prop} : ∀ {l : List (Nat × Value)}, holds st n K l → K ∧ (∀ i, look l i = undef ∨ look l i = st.t i) ∧ ∀ i j c, look l i = .complex .f32 j c → j < n
  | [], h => ⟨h, fun _ => .inl rfl, fun i j c e => by cases e⟩
  | (j, v) :: l, h => by
    obtain ⟨h1, h2⟩ := locK_out h.2
    obtain ⟨k1, k2, k3⟩ := holds_out h1
    refine ⟨k1, fun i => ?_, fun i a c e => ?_⟩
    · unfold look
      by_cases e : i = j
      · subst e; rw [beq_self_eq_true]; exact .inr h.1.symm
      · rw [show (i == j) = false from beq_eq_false_iff_ne.2 e]; exact k2 i
    · unfold look at e
      cases hk : i == j with
      | true => rw [hk] at e; exact h2 a c e
      | false => rw [hk] at e; exact k3 i a c e
theorem preS_out {K : Prop} : ∀ {a b : List (List Value)}, preS K a b → K ∧ a <+: b
  | [], b, h => ⟨h, List.nil_prefix⟩
  | r :: l, r' :: l', h => by
    obtain ⟨rfl, h⟩ := h
    obtain ⟨k, p⟩ := preS_out h
    exact ⟨k, List.cons_prefix_cons.2 ⟨rfl, p⟩⟩
  | _ :: _, [], h => h.elim
theorem fits.sub {d : Hd} {st : St} {K : Prop} (h : fits d st K) : Sub d.st st ∧ K := by
  obtain ⟨h1, h2, h3⟩ := holds_out h
  obtain ⟨⟨h4, k⟩, h5⟩ := preS_out h1
  exact ⟨⟨h2, h5, h4, h3⟩, k⟩

/-- What is said of a loop: from each head to ends and to results. -/
structure LSpec where
  ι : Type
  κ : Type
  I : ι → Prop
  μ : ι → Nat
  head : ι → Hd
  post : κ → Hd
  R : ι → κ → Prop
  ret : ι → Value → AHeap → Prop
def LSpec.none : LSpec := ⟨Unit, Unit, fun _ => False, fun _ => 0, fun _ => ⟨[], [], ⟨0, fun _ => .none⟩⟩, fun _ => ⟨[], [], ⟨0, fun _ => .none⟩⟩, fun _ _ => False, fun _ _ _ => False⟩

def vcL (P : Program) (nt : Nat) (E : Tmp → Bool) (D : Nat → List Stp) (LS : Nat → LSpec) (Q : Value → AHeap → Prop) : Code → (St → Prop) → (Exit → St → Prop) → St → Prop
  | .skip, N, _, st => N st
  | .region _ ops false, N, _, st => vcOps P nt E ops ops.toList st N
  | .region id ops true, N, _, st => vcDraw P nt E ops (D id) st N
  | .seq x y, N, X, st => vcL P nt E D LS Q x (fun st => vcL P nt E D LS Q y N X st) X st
  | .cond c x y, N, X, st => match ev st.t c with
    | .bool q => bs q (vcL P nt E D LS Q x N X (decided c true st)) (vcL P nt E D LS Q y N X (decided c false st))
    | _ => False
  | .block id (.loop _), N, _, st => ∃ i, fits ((LS id).head i) st ((LS id).I i ∧ (∀ j, (LS id).R i j → N ((LS id).post j).st) ∧ ∀ v h, (LS id).ret i v h → Q v h)
  | .block id c, N, X, st => vcL P nt E D LS Q c N (inBlk id N X) st
  | .exit i, _, X, st => X (.exit i) st
  | .label _, N, _, st => N st
  | .ret, _, X, st => X .ret st
  | _, _, _, _ => False

/-- How a round of a loop may end. -/
def loopX (P : Program) (rs : List ResultVar) (id : Nat) (s : LSpec) (i : s.ι) (e : Exit) (st : St) : Prop := match e with
  | .exit k => bs (k == id) (∃ j, fits (s.post j) st (s.R i j)) False
  | .ret => vcRes P rs (s.ret i) st
  | _ => False
def loopN (s : LSpec) (i : s.ι) (st : St) : Prop := ∃ j, fits (s.head j) st (s.I j ∧ s.μ j < s.μ i ∧ (∀ k, s.R j k → s.R i k) ∧ ∀ v h, s.ret j v h → s.ret i v h)

def LoopOk (P : Program) (nt : Nat) (E : Tmp → Bool) (D : Nat → List Stp) (LS : Nat → LSpec) (rs : List ResultVar) (id : Nat) (c : Code) : Prop :=
  ∀ i, (LS id).I i → vcL P nt E D LS ((LS id).ret i) c (loopN (LS id) i) (loopX P rs id (LS id) i) ((LS id).head i).st

def loopsOk (ok : Nat → Code → Prop) : Code → Prop
  | .block id (.loop c) => ok id c ∧ loopsOk ok c
  | .seq x y => loopsOk ok x ∧ loopsOk ok y
  | .cond _ x y => loopsOk ok x ∧ loopsOk ok y
  | .block _ c => loopsOk ok c
  | _ => True

/-- What a loop's specification means. -/
def loopXs (P : Program) (rs : List ResultVar) (id : Nat) (s : LSpec) (i : s.ι) (e : Exit) (st : St) : Prop := match e with
  | .exit k => k = id ∧ ∃ j, s.R i j ∧ Sub (s.post j).st st
  | .ret => vcRes P rs (s.ret i) st
  | _ => False
def LoopSem (P : Program) (nt : Nat) (LS : Nat → LSpec) (rs : List ResultVar) (id : Nat) (c : Code) : Prop :=
  ∀ i st, (LS id).I i → Sub ((LS id).head i).st st → CSem P nt (.loop c) st (fun _ => False) (loopXs P rs id (LS id) i)

theorem Sub.trans {a b c : St} (x : Sub a b) (y : Sub b c) : Sub a c :=
  ⟨fun i => (x.t i).elim .inl fun e => (y.t i).elim (fun e2 => .inl (e.trans e2)) fun e2 => .inr (e.trans e2), x.S.trans y.S, x.h.trans y.h, x.loc⟩

def Closed (N : St → Prop) : Prop := ∀ s st, Sub s st → N s → N st
def ClosedX (X : Exit → St → Prop) : Prop := ∀ e s st, Sub s st → X e s → X e st

theorem okv_undef : okv undef = false := rfl

theorem vcLoad_sub {P : Program} {t : TypeId} {s st : St} (u : Sub s st) {i : Nat} {K : Value → Prop} (h : vcLoad P t (s.t i) s K) : vcLoad P t (st.t i) st K := by
  have e : s.t i = st.t i := (u.t i).resolve_left fun e => by
    rw [e] at h
    unfold vcLoad at h
    split at h
    · exact h
    · exact h
  rw [← e]
  unfold vcLoad at h ⊢
  rw [← u.h]
  split at h
  · split at h
    · split at h
      · rename_i i c _ _ row hrow
        obtain ⟨x, hx⟩ := u.S
        have : st.S[i]? = some row := by rw [← hx, List.getElem?_append_left (List.getElem?_eq_some_iff.1 hrow).1]; exact hrow
        rw [this]; exact h
      · exact h.elim
    · exact h
    · exact h.elim
  · exact h

theorem vcLoad_mono {P : Program} {t : TypeId} {st : St} {v : Value} {K K' : Value → Prop} (hk : ∀ v, K v → K' v) (h : vcLoad P t v st K) : vcLoad P t v st K' := by
  unfold vcLoad at h ⊢
  split at h
  · split at h
    · split at h
      · obtain ⟨h1, h⟩ := bs_false h; rw [h1]; exact hk _ h
      · exact h
    · exact exL_mono (fun vs h => ⟨h.1, hk _ h.2⟩) h
    · exact h
  · exact h

theorem vcVals_sub {P : Program} {s st : St} (u : Sub s st) : ∀ {rs : List ResultVar} {K K' : List Value → Prop}, (∀ vs, K vs → K' vs) → vcVals P rs s K → vcVals P rs st K'
  | [], _, _, hk, h => hk _ h
  | .tmp a :: rs, _, _, hk, h => by
    obtain ⟨h1, h⟩ := bs_false h
    have e : s.t a = st.t a := (u.t a).resolve_left fun e => by rw [e, okv_undef] at h1; cases h1
    unfold vcVals
    rw [← e, h1]
    exact vcVals_sub u (fun vs => hk _) h
  | .cell a t :: rs, _, _, hk, h => vcLoad_mono (fun v h => vcVals_sub u (fun vs => hk _) h) (vcLoad_sub u h)

theorem vcRes_closed {P : Program} {rs : List ResultVar} {Q : Value → AHeap → Prop} : Closed (vcRes P rs Q) := by
  intro s st u h
  unfold vcRes at *
  rw [← u.h]
  exact vcVals_sub u (fun _ h => h) h

theorem retX_closed {P : Program} {rs : List ResultVar} {Q : Value → AHeap → Prop} : ClosedX (retX P rs Q) := by
  intro e s st u h
  cases e <;> first | exact vcRes_closed s st u h | exact h.elim

section
variable {P : Program} {nt : Nat} {E : Tmp → Bool} {D : Nat → List Stp} {LS : Nat → LSpec} {rs : List ResultVar}

theorem inBlk_closed {id : Nat} {N : St → Prop} {X : Exit → St → Prop} (hN : Closed N) (hX : ClosedX X) : ClosedX (inBlk id N X) := by
  intro e s st u h
  cases e with
  | exit i =>
    unfold inBlk at *
    dsimp only at *
    rcases bs_cases h with ⟨e, h⟩ | ⟨e, h⟩
    · rw [e]; exact hN s st u h
    · rw [e]; exact hX _ s st u h
  | _ => exact hX _ s st u h

theorem CSem.closed {c : Code} {N : St → Prop} {X : Exit → St → Prop} : Closed fun st => CSem P nt c st N X := fun _ _ u h => h.weak u

theorem vals_mono' {st : St} : ∀ {rs : List ResultVar} {K K' : List Value → Prop}, (∀ vs, K vs → K' vs) → vcVals P rs st K → vcVals P rs st K'
  | [], _, _, hk, h => hk _ h
  | .tmp a :: rs, _, _, hk, h => by
    obtain ⟨h1, h⟩ := bs_false h
    unfold vcVals
    rw [h1]
    exact vals_mono' (fun vs => hk _) h
  | .cell a t :: rs, _, _, hk, h => vcLoad_mono (fun v h => vals_mono' (fun vs => hk _) h) h

theorem vcL_sound (hm : P.follows .mixedOrders = true) : ∀ (c : Code), loopsOk (LoopSem P nt LS rs) c →
    ∀ (Q : Value → AHeap → Prop) (st : St) (N N' : St → Prop) (X X' : Exit → St → Prop), vcL P nt E D LS Q c N X st → (∀ s, N s → N' s) → (∀ e s, X e s → X' e s) → Closed N' → ClosedX X' → (∀ s, vcRes P rs Q s → X' .ret s) → CSem P nt c st N' X' := by
  intro c
  induction c with
  | skip => exact fun _ Q st N N' X X' h hN _ _ _ _ => ⟨.normal, st, hN _ h, fun L F R w0 w lam a r hd => wp_skip ⟨rfl, L, lam, hd, Ext.refl _ _, r⟩⟩
  | region id ops b =>
    intro _ Q st N N' X X' h hN _ _ _ _
    cases b with
    | false =>
      obtain ⟨st', hK, hrun⟩ := ops_sound (E := E) ops.toList 0 st N (fun j => by simp) h
      refine ⟨.normal, st', hN _ hK, fun L F R w0 w lam a r hd => wp_region ?_⟩
      have := hrun L F R w0 w lam a r hd (fun e' A W => e' = Exit.normal ∧ ∃ L' lam', A.defers = [] ∧ Ext L st.h L' st'.h ∧ StRel L' F R w0 W lam' nt st' A.tmps) fun A W L' lam' h1 h2 h3 => ⟨rfl, L', lam', h1, h2, h3⟩
      rw [List.range_eq_range', ← Array.length_toList]; exact this
    | true =>
      obtain ⟨st', hK, hrun⟩ := draw_sound (id := id) hm h
      exact ⟨.normal, st', hN _ hK, hrun⟩
  | seq x y ih1 ih2 =>
    intro hl Q st N N' X X' h hN hX cN cX hR
    exact CSem.seq (ih1 hl.1 Q st _ (fun st => CSem P nt y st N' X') X X' h (fun s hs => ih2 hl.2 Q s N N' X X' hs hN hX cN cX hR) hX CSem.closed cX hR)
  | cond c x y ih1 ih2 =>
    intro hl Q st N N' X X' h hN hX cN cX hR
    unfold vcL at h
    split at h
    case h_2 => exact h.elim
    rename_i q hq
    have go : ∀ (z : Code), (if q then x else y) = z → CSem P nt z st N' X' → CSem P nt (.cond c x y) st N' X' := by
      rintro z rfl ⟨e, st', hE, hr⟩
      refine ⟨e, st', hE, fun L F R w0 w lam a r hd => wp_cond (r.known.bool hq) (hr L F R w0 w lam a r hd)⟩
    rcases bs_cases h with ⟨rfl, h⟩ | ⟨rfl, h⟩
    · rw [decided_same hq] at h; exact go x rfl (ih1 hl.1 Q st N N' X X' h hN hX cN cX hR)
    · rw [decided_same hq] at h; exact go y rfl (ih2 hl.2 Q st N N' X X' h hN hX cN cX hR)
  | block id c ih =>
    intro hl Q st N N' X X' h hN hX cN cX hR
    have plain : loopsOk (LoopSem P nt LS rs) c → vcL P nt E D LS Q c N (inBlk id N X) st → CSem P nt (.block id c) st N' X' := fun hl h =>
      CSem.block (ih hl Q st N N' (inBlk id N X) (inBlk id N' X') h hN (fun e s he => by
        cases e with
        | exit i =>
          unfold inBlk at *
          dsimp only at *
          rcases bs_cases he with ⟨e, he⟩ | ⟨e, he⟩
          · rw [e]; exact hN s he
          · rw [e]; exact hX _ s he
        | _ => exact hX _ s he) cN (inBlk_closed cN cX) hR)
    cases c with
    | loop c =>
      obtain ⟨i, hf⟩ := h
      obtain ⟨hf, hI, hj, hr⟩ := hf.sub
      have := hl.1 i st hI hf
      refine CSem.block (this.mono (fun _ h => h.elim) fun e s he => ?_)
      cases e with
      | exit k =>
        obtain ⟨rfl, j, hR1, hfit⟩ := he
        unfold inBlk
        dsimp only
        rw [beq_self_eq_true]
        exact cN _ _ hfit (hN _ (hj j hR1))
      | ret =>
        refine hR s ?_
        exact vals_mono' (fun _ => hr _ _) he
      | _ => exact he.elim
    | _ => exact plain hl h
  | loop c => exact fun _ Q st N N' X X' h => h.elim
  | exit i => exact fun _ Q st N N' X X' h _ hX _ _ _ => ⟨.exit i, st, hX _ _ h, fun L F R w0 w lam a r hd => wp_exit ⟨rfl, L, lam, hd, Ext.refl _ _, r⟩⟩
  | label l => exact fun _ Q st N N' X X' h hN _ _ _ _ => ⟨.normal, st, hN _ h, fun L F R w0 w lam a r hd => wp_label ⟨rfl, L, lam, hd, Ext.refl _ _, r⟩⟩
  | ret => exact fun _ Q st N N' X X' h _ hX _ _ _ => ⟨.ret, st, hX _ _ h, fun L F R w0 w lam a r hd => wp_ret ⟨rfl, L, lam, hd, Ext.refl _ _, r⟩⟩
  | _ => exact fun _ Q st N N' X X' h => h.elim

theorem res_mono {Q Q' : Value → AHeap → Prop} (h : ∀ v x, Q v x → Q' v x) {s : St} (this : vcRes P rs Q s) : vcRes P rs Q' s :=
  vals_mono' (fun _ => h _ _) this

theorem loop_sem (hm : P.follows .mixedOrders = true) {id : Nat} {c : Code} (hc : loopsOk (LoopSem P nt LS rs) c) (h : LoopOk P nt E D LS rs id c) : LoopSem P nt LS rs id c := by
  intro i0 st0 hI0 hs0
  refine loop_at (fun i => ((LS id).head i).st) (fun i => (LS id).I i ∧ (∀ k, (LS id).R i k → (LS id).R i0 k) ∧ ∀ v h, (LS id).ret i v h → (LS id).ret i0 v h) (LS id).μ i0 ⟨hI0, fun _ h => h, fun _ _ h => h⟩ hs0 ?_
  rintro i ⟨hI, h1, h2⟩
  refine vcL_sound hm c hc ((LS id).ret i) _ _ _ _ _ (h i hI) ?_ ?_ ?_ ?_ fun s hs => res_mono h2 hs
  · rintro s ⟨j, hf⟩
    obtain ⟨hf, hj, hlt, h3, h4⟩ := hf.sub
    exact ⟨j, ⟨hj, fun k hk => h1 k (h3 k hk), fun v x hv => h2 v x (h4 v x hv)⟩, hlt, hf⟩
  · intro e s he
    cases e with
    | exit k =>
      obtain ⟨hk, j, hfit⟩ := bs_false he
      obtain ⟨hfit, hR1⟩ := hfit.sub
      exact ⟨by simpa using hk, j, h1 j hR1, hfit⟩
    | ret => exact res_mono h2 he
    | _ => exact he.elim
  · rintro s st u ⟨j, hj, hlt, hf⟩
    exact ⟨j, hj, hlt, hf.trans u⟩
  · intro e s st u he
    cases e with
    | exit k => obtain ⟨hk, j, hR1, hf⟩ := he; exact ⟨hk, j, hR1, hf.trans u⟩
    | ret => exact vcRes_closed s st u he
    | _ => exact he.elim

theorem loops_sem (hm : P.follows .mixedOrders = true) : ∀ (c : Code), (loopsOk (LoopOk P nt E D LS rs) c → loopsOk (LoopSem P nt LS rs) c) ∧ ∀ d, c = .loop d → loopsOk (LoopOk P nt E D LS rs) d → loopsOk (LoopSem P nt LS rs) d := by
  intro c
  induction c with
  | seq x y ih1 ih2 => exact ⟨fun h => ⟨ih1.1 h.1, ih2.1 h.2⟩, fun d e => by cases e⟩
  | cond c x y ih1 ih2 => exact ⟨fun h => ⟨ih1.1 h.1, ih2.1 h.2⟩, fun d e => by cases e⟩
  | loop c ih => exact ⟨fun _ => trivial, fun d e => by cases e; exact ih.1⟩
  | block id c ih =>
    refine ⟨fun h => ?_, fun d e => by cases e⟩
    cases c with
    | loop c => exact ⟨loop_sem hm (ih.2 c rfl h.2) h.1, ih.2 c rfl h.2⟩
    | _ => exact ih.1 h
  | _ => exact ⟨fun _ => trivial, fun d e => by cases e⟩

/-- THE RULE FOR FUNCTIONS. -/
theorem acall_by {f : FuncId} {fn : Func} {c : Code} {args : List Value} {h0 : AHeap} {Q : Value → AHeap → Prop} (E : Tmp → Bool) (D : Nat → List Stp) (LS : Nat → LSpec) (hm : P.follows .mixedOrders = true) (hf : P.funcs[f]? = some fn) (hb : fn.body = some c) (hrs : fn.results = rs.toArray) (hn : fn.ntmps = nt) (hs : args.length ≤ nt)
    (hl : loopsOk (LoopOk P nt E D LS rs) c) (h : vcL P nt E D LS Q c (vcRes P rs Q) (retX P rs Q) (st0 args h0)) : ∃ v h', ACall P f args h0 v h' ∧ Q v h' :=
  acall_of_sem hf hb hrs hn hs (vcL_sound hm c ((loops_sem hm c).1 hl) Q _ _ _ _ _ h (fun _ h => h) (fun _ _ h => h) vcRes_closed retX_closed fun _ h => h)
end
end Go.Abs
