/- Code and functions. -/
import Derived.Test.YtgcckeglmhbnmaaA18
namespace Go.Abs

/-- The test's slot holds what the test decided. -/
def decided (c : Operand) (q : Bool) (st : St) : St := match c with
  | .tmp d => { st with t := upd st.t d (.bool q) }
  | _ => st

def vcC (P : Program) (nt : Nat) (E : Tmp → Bool) (D : Nat → List Stp) : Code → (St → Prop) → (Exit → St → Prop) → St → Prop
  | .skip, N, _, st => N st
  | .region _ ops false, N, _, st => vcOps P nt E ops ops.toList st N
  | .region id ops true, N, _, st => vcDraw P nt E ops (D id) st N
  | .seq x y, N, X, st => vcC P nt E D x (fun st => vcC P nt E D y N X st) X st
  | .cond c x y, N, X, st => match ev st.t c with
    | .bool q => bs q (vcC P nt E D x N X (decided c true st)) (vcC P nt E D y N X (decided c false st))
    | _ => False
  | .block id c, N, X, st => vcC P nt E D c N (inBlk id N X) st
  | .loop c, N, X, st => CSem P nt (.loop c) st N X
  | .exit i, _, X, st => X (.exit i) st
  | .label _, N, _, st => N st
  | .ret, _, X, st => X .ret st
  | _, _, _, _ => False

section
variable {P : Program} {nt : Nat} {E : Tmp → Bool} {D : Nat → List Stp}

theorem decided_same {c : Operand} {q : Bool} {st : St} (h : ev st.t c = .bool q) : decided c q st = st := by
  unfold decided
  split
  · rename_i d
    have : upd st.t d (.bool q) = st.t := funext (upd_same h)
    rw [this]
  · rfl

theorem vcC_sound (hm : P.follows .mixedOrders = true) : ∀ (c : Code) (st : St) (N : St → Prop) (X : Exit → St → Prop), vcC P nt E D c N X st → CSem P nt c st N X := by
  intro c
  induction c with
  | skip => exact fun st N X h => ⟨.normal, st, h, fun L F R w0 w lam a r hd => wp_skip ⟨rfl, L, lam, hd, Ext.refl _ _, r⟩⟩
  | region id ops b =>
    intro st N X h
    cases b with
    | false =>
      obtain ⟨st', hK, hrun⟩ := ops_sound (E := E) ops.toList 0 st N (fun j => by simp) h
      refine ⟨.normal, st', hK, fun L F R w0 w lam a r hd => wp_region ?_⟩
      have := hrun L F R w0 w lam a r hd (fun e' A W => e' = Exit.normal ∧ ∃ L' lam', A.defers = [] ∧ Ext L st.h L' st'.h ∧ StRel L' F R w0 W lam' nt st' A.tmps) fun A W L' lam' h1 h2 h3 => ⟨rfl, L', lam', h1, h2, h3⟩
      rw [List.range_eq_range', ← Array.length_toList]; exact this
    | true =>
      obtain ⟨st', hK, hrun⟩ := draw_sound (id := id) hm h
      exact ⟨.normal, st', hK, hrun⟩
  | seq x y ih1 ih2 => exact fun st N X h => CSem.seq ((ih1 st _ X h).mono (fun st h => ih2 st N X h) fun _ _ h => h)
  | cond c x y ih1 ih2 =>
    intro st N X h
    unfold vcC at h
    split at h
    case h_2 => exact h.elim
    rename_i q hq
    have go : ∀ (z : Code), (if q then x else y) = z → CSem P nt z st N X → CSem P nt (.cond c x y) st N X := by
      rintro z rfl ⟨e, st', hE, hr⟩
      refine ⟨e, st', hE, fun L F R w0 w lam a r hd => wp_cond (r.known.bool hq) (hr L F R w0 w lam a r hd)⟩
    rcases bs_cases h with ⟨rfl, h⟩ | ⟨rfl, h⟩
    · rw [decided_same hq] at h; exact go x rfl (ih1 st N X h)
    · rw [decided_same hq] at h; exact go y rfl (ih2 st N X h)
  | block id c ih => exact fun st N X h => CSem.block (ih st N _ h)
  | loop c => exact fun st N X h => h
  | exit i => exact fun st N X h => ⟨.exit i, st, h, fun L F R w0 w lam a r hd => wp_exit ⟨rfl, L, lam, hd, Ext.refl _ _, r⟩⟩
  | label l => exact fun st N X h => ⟨.normal, st, h, fun L F R w0 w lam a r hd => wp_label ⟨rfl, L, lam, hd, Ext.refl _ _, r⟩⟩
  | ret => exact fun st N X h => ⟨.ret, st, h, fun L F R w0 w lam a r hd => wp_ret ⟨rfl, L, lam, hd, Ext.refl _ _, r⟩⟩
  | _ => exact fun st N X h => h.elim

/-- What a function's results are. -/
def vcVals (P : Program) : List ResultVar → St → (List Value → Prop) → Prop
  | [], _, K => K []
  | .tmp a :: rs, st, K => bs (okv (st.t a)) (vcVals P rs st fun vs => K (st.t a :: vs)) False
  | .cell a t :: rs, st, K => vcLoad P t (st.t a) st fun v => vcVals P rs st fun vs => K (v :: vs)
def resV : List Value → Value
  | [v] => v
  | vs => .tuple vs.toArray
def vcRes (P : Program) (rs : List ResultVar) (Q : Value → AHeap → Prop) (st : St) : Prop := vcVals P rs st fun vs => Q (resV vs) st.h

theorem okv_rel {L : Lay} {F R : Nat → Prop} {w0 w : World} {lam : List Nat} {st : St} {T : Array Value} (r : StRel L F R w0 w lam nt st T) {i : Nat} (h : okv (st.t i) = true) : VRel L (st.t i) (T.getD i undef) := by
  have := args_rel (st := st) (a := { tmps := T, defers := [] }) r.known #[.tmp i] (by simpa [ev] using h)
  exact this.2 0 (st.t i) (T.getD i undef) (by simp [ev]) (by simp [Act.eval])

/-- The model's reading of one result. -/
def resOf (T : Array Value) : ResultVar → Sem Value
  | .tmp t => pure (T.getD t undef)
  | .cell a t => do loadVar t (← asAddr (T.getD a undef))

theorem load_res {t : TypeId} {a : Tmp} {st : St} {K : Value → Prop} (h : vcLoad P t (st.t a) st K) : ∃ v, K v ∧ ∀ (L : Lay) (F R : Nat → Prop) (w0 w : World) (lam : List Nat) (T : Array Value), StRel L F R w0 w lam nt st T → ∃ V, VRel L v V ∧ (resOf T (.cell a t)).run P w = .ok V w := by
  have ek : ∀ (L : Lay) (F R : Nat → Prop) (w0 w : World) (lam : List Nat) (T : Array Value), StRel L F R w0 w lam nt st T → ∀ v, st.t a = v → v ≠ undef → SVRel L lam v (T.getD a undef) := by
    intro L F R w0 w lam T r v hv hne
    rcases r.slots a with e | ⟨X, e, k⟩
    · exact absurd (hv.symm.trans e) hne
    · rw [Array.getD_eq_getD_getElem?, e, ← hv]; exact k
  unfold vcLoad at h
  split at h
  case h_2 => exact h.elim
  rename_i ag z ha hz
  split at h
  · rename_i i c hx
    split at h
    case h_2 => exact h.elim
    rename_i row hrow
    obtain ⟨hc, h⟩ := bs_false h
    have hc' := of_decide_eq_true hc
    refine ⟨_, h, fun L F R w0 w lam T r => ?_⟩
    obtain ⟨b, hb, e⟩ := (ek L F R w0 w lam T r _ hx (by simp [undef])).lptr
    obtain ⟨cs, ty, hh, hsz, hv⟩ := r.lblk i b row hb hrow
    obtain ⟨V, hV, hr⟩ := load_cells ha hz (L := L) (w := w) (A := ⟨b, c, none⟩) (vs := (row.drop c).take (cnt ag z)) (by rw [List.length_take, List.length_drop]; omega) (fun j v hj => by
      rw [List.getElem?_take] at hj
      split at hj
      · rw [List.getElem?_drop] at hj
        obtain ⟨V, a1, a2⟩ := hv (c + j) v hj
        exact ⟨V, by rw [add_addr]; unfold World.cell?; rw [hh]; simpa using a1, a2⟩
      · cases hj)
    exact ⟨V, hV, by unfold resOf; dsimp only; rw [e]; simp [asAddr, hr]⟩
  · rename_i l i c hx
    obtain ⟨vs, hl, h⟩ := exL_some h
    refine ⟨_, h, fun L F R w0 w lam T r => ?_⟩
    obtain ⟨s, hs, e⟩ := (ek L F R w0 w lam T r _ hx (by simp [undef])).ptr
    have hld := r.rel.ld hl hs
    obtain ⟨V, hV, hr⟩ := load_cells ha hz hld.1 hld.2
    exact ⟨V, hV, by unfold resOf; dsimp only; rw [e]; simp [asAddr, hr]⟩
  · exact h.elim

theorem vals_sound {st : St} : ∀ (rs : List ResultVar) (K : List Value → Prop), vcVals P rs st K → ∃ vs, K vs ∧ ∀ (L : Lay) (F R : Nat → Prop) (w0 w : World) (lam : List Nat) (T : Array Value), StRel L F R w0 w lam nt st T →
    ∃ Vs : List Value, (rs.mapM (resOf T)).run P w = .ok Vs w ∧ vs.length = Vs.length ∧ ∀ (i : Nat) (v V : Value), vs[i]? = some v → Vs[i]? = some V → VRel L v V
  | [], K, h => ⟨[], h, fun L F R w0 w lam T r => ⟨[], by simp, rfl, fun i v V h => by simp at h⟩⟩
  | .tmp a :: rs, K, h => by
    obtain ⟨h1, h⟩ := bs_false h
    obtain ⟨vs, hK, hs⟩ := vals_sound rs _ h
    refine ⟨_, hK, fun L F R w0 w lam T r => ?_⟩
    obtain ⟨Vs, e1, e2, e3⟩ := hs L F R w0 w lam T r
    refine ⟨T.getD a undef :: Vs, by simp only [List.mapM_cons]; simp [resOf, e1], by simp [e2], fun i v V hv hV => ?_⟩
    cases i with
    | zero => simp at hv hV; subst hv; subst hV; simpa using okv_rel r h1
    | succ i => simp at hv hV; exact e3 i v V hv hV
  | .cell a t :: rs, K, h => by
    obtain ⟨v, h, hl⟩ := load_res (nt := nt) h
    obtain ⟨vs, hK, hs⟩ := vals_sound rs _ h
    refine ⟨_, hK, fun L F R w0 w lam T r => ?_⟩
    obtain ⟨V, v1, v2⟩ := hl L F R w0 w lam T r
    obtain ⟨Vs, e1, e2, e3⟩ := hs L F R w0 w lam T r
    refine ⟨V :: Vs, by simp only [List.mapM_cons]; simp [v2, e1], by simp [e2], fun i v V hv hV => ?_⟩
    cases i with
    | zero => simp at hv hV; subst hv; subst hV; exact v1
    | succ i => simp at hv hV; exact e3 i v V hv hV

theorem res_sound {fn : Func} {rs : List ResultVar} (hrs : fn.results = rs.toArray) {Q : Value → AHeap → Prop} {st : St} (h : vcRes P rs Q st) :
    ∃ v, Q v st.h ∧ ∀ (L : Lay) (F R : Nat → Prop) (w0 w : World) (lam : List Nat) (T : Array Value), StRel L F R w0 w lam nt st T → ∃ V, (results fn T).run P w = .ok V w ∧ VRel L v V := by
  obtain ⟨vs, hQ, hs⟩ := vals_sound (nt := nt) rs _ h
  refine ⟨_, hQ, fun L F R w0 w lam T r => ?_⟩
  obtain ⟨Vs, e1, e2, e3⟩ := hs L F R w0 w lam T r
  have hres : (results fn T).run P w = .ok (if h : Vs.toArray.size = 1 then Vs.toArray[0] else .tuple Vs.toArray) w := by
    have e0 : results fn T = (do let vs ← fn.results.mapM (resOf T); pure (if h : vs.size = 1 then vs[0] else .tuple vs)) := by
      unfold results
      have : ∀ f g : ResultVar → Sem Value, (∀ x, f x = g x) → fn.results.mapM f = fn.results.mapM g := fun f g h => by rw [funext h]
      rw [this _ (resOf T) (fun x => by cases x <;> rfl)]
    rw [e0, hrs, List.mapM_toArray]
    simp [e1]
  refine ⟨_, hres, ?_⟩
  match vs, Vs, e2, e3 with
  | [], [], _, _ => exact .tuple rfl (by simp)
  | [v], [V], _, e3 => exact e3 0 v V rfl rfl
  | v1 :: v2 :: vs, V1 :: V2 :: Vs, e2, e3 =>
    rw [dif_neg (by simp)]
    refine .tuple (by simpa using e2) fun i v V hv hV => e3 i v V (by simpa using hv) (by simpa using hV)

def st0 (args : List Value) (h : AHeap) : St := ⟨fun i => args.getD i undef, [], h⟩
/-- How a body may end. -/
def retX (P : Program) (rs : List ResultVar) (Q : Value → AHeap → Prop) (e : Exit) (st : St) : Prop := match e with | .ret => vcRes P rs Q st | _ => False

theorem acall_of_sem {f : FuncId} {fn : Func} {c : Code} {rs : List ResultVar} {args : List Value} {h0 : AHeap} {Q : Value → AHeap → Prop} (hf : P.funcs[f]? = some fn) (hb : fn.body = some c) (hrs : fn.results = rs.toArray) (hn : fn.ntmps = nt) (hs : args.length ≤ nt)
    (h : CSem P nt c (st0 args h0) (vcRes P rs Q) (retX P rs Q)) : ∃ v h', ACall P f args h0 v h' ∧ Q v h' := by
  obtain ⟨e, st', hE, hr⟩ := h
  have hE' : vcRes P rs Q st' ∧ (e = .normal ∨ e = .ret) := by
    cases e <;> first | exact ⟨hE, .inl rfl⟩ | exact ⟨hE, .inr rfl⟩ | exact hE.elim
  obtain ⟨hv, he⟩ := hE'
  obtain ⟨v, hQ, hres⟩ := res_sound (nt := nt) (P := P) hrs hv
  refine ⟨v, st'.h, fun L F R w0 w ARGS hrel harg => calls_of_wp hf hb ?_, hQ⟩
  have hsz : args.length = ARGS.size := by simpa using harg.1
  refine wp_mono (hr L F R w0 w [] _ ⟨hrel, by simp [hn]; omega, rfl, List.nodup_nil, fun b hb => (by cases hb), fun l o q _ _ _ hb => (by cases hb), fun i b row hb => by simp at hb, ?_⟩ rfl) ?_
  · intro i
    show SlotRel L [] (args.getD i undef) (ARGS ++ Array.replicate (fn.ntmps - ARGS.size) undef)[i]?
    by_cases hi : i < args.length
    · right
      refine ⟨ARGS[i]'(by omega), ?_, .of ?_⟩
      · rw [Array.getElem?_append_left (by omega)]; exact Array.getElem?_eq_getElem _
      · refine harg.2 i _ _ ?_ (Array.getElem?_eq_getElem (by omega))
        rw [List.getD_eq_getElem?_getD]
        simp [hi]
    · left
      rw [List.getD_eq_getElem?_getD, List.getElem?_eq_none (by omega)]; rfl
  · rintro e' A W ⟨rfl, L', lam', hA, hext, hst⟩
    obtain ⟨V, h1, h2⟩ := hres L' F R w0 W lam' A.tmps hst
    rcases he with rfl | rfl
    · exact bodyPost_end h1 hA ⟨V, L', rfl, hext, h2, hst.rel⟩
    · exact bodyPost_ret h1 hA ⟨V, L', rfl, hext, h2, hst.rel⟩

/-- THE RULE FOR FUNCTIONS. -/
theorem acall_of {f : FuncId} {fn : Func} {c : Code} {rs : List ResultVar} {args : List Value} {h0 : AHeap} {Q : Value → AHeap → Prop} (E : Tmp → Bool) (D : Nat → List Stp) (hm : P.follows .mixedOrders = true) (hf : P.funcs[f]? = some fn) (hb : fn.body = some c) (hrs : fn.results = rs.toArray) (hn : fn.ntmps = nt) (hs : args.length ≤ nt)
    (h : vcC P nt E D c (vcRes P rs Q) (retX P rs Q) (st0 args h0)) : ∃ v h', ACall P f args h0 v h' ∧ Q v h' :=
  acall_of_sem hf hb hrs hn hs (vcC_sound hm c _ _ _ h)
end
end Go.Abs
