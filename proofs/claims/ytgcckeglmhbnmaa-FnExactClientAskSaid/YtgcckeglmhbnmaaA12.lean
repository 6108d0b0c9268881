/- Contracts of functions at the abstract heap; calls; regions in the text's order; code. -/
import Derived.Test.YtgcckeglmhbnmaaA11
namespace Go.Abs

/-- THE CONTRACT: called with args over h, f returns v and leaves h'. -/
def ACall (P : Program) (f : FuncId) (args : List Value) (h : AHeap) (v : Value) (h' : AHeap) : Prop :=
  ∀ (L : Lay) (F R : Nat → Prop) (w0 w : World) (ARGS : Array Value), Rel L F R w0 w h → ARel L args.toArray ARGS →
    Calls P f ARGS w fun e W => ∃ V L', e = .returned V ∧ Ext L h L' h' ∧ VRel L' v V ∧ Rel L' F R w0 W h'

def exT (P : Program) (t : TypeId) (K : Value → Prop) : Prop :=
  match aggOf P t with
  | some ag => exL (leafs P 8 t) fun vs => K (mkV ag vs)
  | none => False
def exTs (P : Program) : List TypeId → (List Value → Prop) → Prop
  | [], K => K []
  | t :: ts, K => exT P t fun v => exTs P ts fun vs => K (v :: vs)
/-- Some value of a call's result type. -/
def exR (P : Program) (t : TypeId) (K : Value → Prop) : Prop :=
  match P.underlying t with
  | some (.tuple ts) => exTs P ts.toList fun vs => K (.tuple vs.toArray)
  | some _ => exT P t K
  | none => False

theorem exT_some {P : Program} {t : TypeId} {K : Value → Prop} (h : exT P t K) : ∃ v, K v := by
  unfold exT at h; split at h
  · obtain ⟨vs, h⟩ := exL_some h; exact ⟨_, h⟩
  · exact h.elim
theorem exTs_some {P : Program} : ∀ {ts : List TypeId} {K : List Value → Prop}, exTs P ts K → ∃ vs, K vs
  | [], _, h => ⟨_, h⟩
  | _ :: _, _, h => let ⟨_, h⟩ := exT_some h; let ⟨_, h⟩ := exTs_some h; ⟨_, h⟩
theorem exR_some {P : Program} {t : TypeId} {K : Value → Prop} (h : exR P t K) : ∃ v, K v := by
  unfold exR at h; split at h
  · obtain ⟨vs, h⟩ := exTs_some h; exact ⟨_, h⟩
  · exact exT_some h
  · exact h.elim

def callable (P : Program) (g : FuncId) : Bool :=
  match P.funcs[g]? with
  | some fn => fn.body.isSome && !(fn.name == "runtime.NumGoroutine")
  | none => false

def vcCall (P : Program) (f : Operand) (args : Array Operand) (t : TypeId) (st : St) (K : Value → St → Prop) : Prop :=
  match ev st.t f with
  | .func (.func g) first cap => bs (callable P g && args.toList.all fun x => okv (ev st.t x))
      (exR P t fun v => ∃ h', ACall P g (first.toList ++ (args.toList.map (ev st.t)) ++ cap.toList) st.h v h' ∧ K v { st with h := h' }) False
  | _ => False

def vcOp (P : Program) (E : Tmp → Bool) (o : Oper) (st : St) (K : Value → St → Prop) : Prop :=
  match o.op with
  | .move x => K (ev st.t x) st
  | .assign x => K (ev st.t x) st
  | .pick c x y => match ev st.t c with
    | .bool q => bs q (K (ev st.t x) st) (K (ev st.t y) st)
    | _ => False
  | .alloc t => vcAlloc P (match o.dst with | some d => E d | none => true) t st K
  | .box _ x => vcBox (match o.dst with | some d => E d | none => true) (ev st.t x) st K
  | .build t ps => vcBuild P t (ps.toList.map fun x => (x.1, ev st.t x.2)) fun v => K v st
  | .buildSlice t n ps => vcBuildSlice P t n (ps.toList.map fun x => (x.1, ev st.t x.2)) st K
  | .load t x => vcLoad P t (ev st.t x) st fun v => K v st
  | .store t x y => vcStore P t (ev st.t x) (ev st.t y) st K
  | .nilCheck x => vcNil (ev st.t x) fun v => K v st
  | .binOp op t x y _ => vcBin P op t x y (ev st.t x) (ev st.t y) fun v => K v st
  | .unOp op _ x => vcUn op (ev st.t x) fun v => K v st
  | .convert s d x => match ev st.t x with
    | .slice a n c => vcB2S P s d (.slice a n c) st fun v => K v st
    | .string q => match P.underlying d with
      | some (.slice _) => vcS2B P s d (.string q) st K
      | _ => vcConv P s d (.string q) fun v => K v st
    | v => vcConv P s d v fun v => K v st
  | .makeInterface t x => match P.underlying t with
    | some (.interface _) => False
    | some _ => bs (okv (ev st.t x)) (K (.iface t (ev st.t x)) st) False
    | none => False
  | .makeFunc fn xs ys => bs ((xs.toList.all fun x => okv (ev st.t x)) && ys.toList.all fun x => okv (ev st.t x)) (K (.func fn (xs.toList.map (ev st.t)).toArray (ys.toList.map (ev st.t)).toArray) st) False
  | .makeSlice t l c => vcMake P t (ev st.t l) (ev st.t c) st K
  | .slice t x lo hi mx => vcSlice P t (ev st.t x) (lo.map (ev st.t)) (hi.map (ev st.t)) (mx.map (ev st.t)) fun v => K v st
  | .fieldAddr s x f => vcFieldAddr P s (ev st.t x) f fun v => K v st
  | .field s x f => vcField P s (ev st.t x) f fun v => K v st
  | .indexAddr t x i => vcIndexAddr P t (ev st.t x) (ev st.t i) fun v => K v st
  | .index t x i => vcIndex P t (ev st.t x) (ev st.t i) fun v => K v st
  | .extract x i => vcExtract (ev st.t x) i fun v => K v st
  | .call c => match c.callee with
    | .value f => vcCall P f c.args o.type st K
    | .builtin .len => match c.args.toList, c.argTypes.toList with
      | [x], t :: _ => vcLen P t (ev st.t x) fun v => K v st
      | _, _ => False
    | .builtin .cap => match c.args.toList, c.argTypes.toList with
      | [x], t :: _ => vcCap P t (ev st.t x) fun v => K v st
      | _, _ => False
    | .builtin .min => match c.args.toList with
      | [x, y] => vcMin (ev st.t x) (ev st.t y) fun v => K v st
      | _ => False
    | .builtin .max => match c.args.toList with
      | [x, y] => vcMax (ev st.t x) (ev st.t y) fun v => K v st
      | _ => False
    | .builtin .append => match c.args.toList, c.argTypes.toList with
      | [x, y], [t, t'] => vcAppend P t t' (ev st.t x) (ev st.t y) st K
      | _, _ => False
    | _ => False
  | _ => False

section
variable {P : Program} {nt : Nat} {o : Oper} {st : St}

theorem StRel.callee {L : Lay} {F R : Nat → Prop} {w0 w : World} {lam : List Nat} {T : Array Value} (r : StRel L F R w0 w lam nt st T) : Rel L (fun b => F b ∨ b ∈ lam) R w w st.h :=
  ⟨Keeps.refl _ _, fun b hb => hb.elim (fun h => Nat.lt_of_lt_of_le (r.rel.inF b h) r.rel.keeps.size) (fun h => r.lam_lt h), fun b hb => .inl (r.rel.inR b hb), r.rel.fresh, r.rel.unl, r.rel.obj,
   fun l o s h1 h2 h3 h4 => h4.elim (r.rel.free l o s h1 h2 h3) (r.lrw l o s h1 h2 h3), r.rel.ro, r.rel.apart⟩

theorem StRel.back {L L' : Lay} {F R : Nat → Prop} {w0 w W : World} {lam : List Nat} {T : Array Value} (r : StRel L F R w0 w lam nt st T) {h' : AHeap} (e : Ext L st.h L' h') (q : Rel L' (fun b => F b ∨ b ∈ lam) R w W h') : StRel L' F R w0 W lam nt { st with h := h' } T := by
  have hle := e.le r.rel.unl
  refine ⟨⟨r.rel.keeps.trans q.keeps fun _ h => .inl h, r.rel.inF, r.rel.inR, q.fresh, q.unl, q.obj, fun l o s h1 h2 h3 h4 => q.free l o s h1 h2 h3 (.inl h4), q.ro, q.apart⟩, r.tsz, r.llen, r.lnd, r.lF, fun l o s h1 h2 h3 h4 => q.free l o s h1 h2 h3 (.inr h4), ?_, fun i => (r.slots i).mono hle (List.prefix_refl _)⟩
  intro i b row h1 h2
  obtain ⟨c, t, a, d, f⟩ := r.lblk i b row h1 h2
  exact ⟨c, t, (q.keeps.block b (.inr (List.mem_of_getElem? h1))).trans a, d, fun j v hv => let ⟨V, x, y⟩ := f j v hv; ⟨V, x, y.mono hle⟩⟩

theorem call_sound {f : Operand} {args : Array Operand} {c : Call} {K : Value → St → Prop} (ho : o.op = .call c) (hc : c.callee = .value f) (ha : c.args = args) (h : vcCall P f args o.type st K) : ∃ v st', K v st' ∧ OpSem P nt o st v st' := by
  unfold vcCall at h
  split at h
  case h_2 => exact h.elim
  rename_i g first cap hf
  obtain ⟨hq, h⟩ := bs_false h
  simp only [Bool.and_eq_true] at hq
  obtain ⟨hcall, hok⟩ := hq
  obtain ⟨v, h', hA, hK⟩ := exR_some h
  refine ⟨v, _, hK, rfl, fun L F R w0 w lam a r _ next Q hn => ?_⟩
  have hF : VRel L (.func (.func g) first cap) (a.eval f) := r.known.of hf (by simp [undef])
  obtain ⟨fst, cp, ef, h1, h2⟩ : ∃ fst cp, a.eval f = .func (.func g) fst cp ∧ ARel L first fst ∧ ARel L cap cp := by
    generalize a.eval f = X at hF
    cases hF with | fn _ hs hv hs2 hv2 => exact ⟨_, _, rfl, ⟨hs, hv⟩, ⟨hs2, hv2⟩⟩
  have h3 := args_rel r.known args hok
  have hargs : ARel L (first.toList ++ (args.toList.map (ev st.t)) ++ cap.toList).toArray (fst ++ args.map a.eval ++ cp) := by
    have cat : ∀ {a b a' b' : Array Value}, ARel L a a' → ARel L b b' → ARel L (a ++ b) (a' ++ b') := by
      intro a b a' b' p q
      refine ⟨by simp [p.1, q.1], fun i v V hv hV => ?_⟩
      by_cases hi : i < a.size
      · rw [Array.getElem?_append_left hi] at hv
        rw [Array.getElem?_append_left (by rw [← p.1]; exact hi)] at hV
        exact p.2 i v V hv hV
      · rw [Array.getElem?_append_right (by omega)] at hv
        rw [Array.getElem?_append_right (by rw [← p.1]; omega), ← p.1] at hV
        exact q.2 _ v V hv hV
    have := cat (cat h1 h3) h2
    have e : (first.toList ++ (args.toList.map (ev st.t)) ++ cap.toList).toArray = first ++ args.map (ev st.t) ++ cap := by
      apply Array.ext'
      simp
    rw [e]; exact this
  have hrun : (execOp a.eval o).run P w = .ok (.enter g (fst ++ args.map a.eval ++ cp)) w := by
    unfold execOp; rw [ho]
    unfold callable at hcall
    split at hcall
    · rename_i fn hfn
      simp only [Bool.and_eq_true, Bool.not_eq_true'] at hcall
      obtain ⟨hb, hnm⟩ := hcall
      obtain ⟨body, hb⟩ := Option.isSome_iff_exists.1 hb
      have hnm' : ¬ fn.name = "runtime.NumGoroutine" := by simpa using hnm
      simp [resolve, hc, ha, ef, Deferred.ofValue, invoke, callFunc, hfn, hnm', hb]
    · cases hcall
  unfold Oper.wp
  rw [hrun, Oper.upon_enter]
  refine (hA L _ R w w _ r.callee hargs).mono ?_
  rintro e W ⟨V, L', rfl, hext, hv, hrel⟩
  exact hn V W L' lam (.inr (.of hv)) hext (List.prefix_refl _) (r.back hext hrel)

theorem lift1 {K : Value → St → Prop} (h : ∃ v, K v st ∧ OpSem P nt o st v st) : ∃ v st', K v st' ∧ OpSem P nt o st v st' := let ⟨v, a, b⟩ := h; ⟨v, st, a, b⟩

theorem liftP {K : Value → St → Prop} (h : ∃ v, K v st ∧ PSem P o st.t v) : ∃ v st', K v st' ∧ OpSem P nt o st v st' := let ⟨v, a, b⟩ := h; ⟨v, st, a, b.op⟩

theorem op_sound {E : Tmp → Bool} {K : Value → St → Prop} (h : vcOp P E o st K) : ∃ v st', K v st' ∧ OpSem P nt o st v st' := by
  unfold vcOp at h
  split at h
  · rename_i ho; exact liftP (move_sound (K := fun v => K v st) (.inl ho) h)
  · rename_i ho; exact liftP (move_sound (K := fun v => K v st) (.inr ho) h)
  · rename_i ho
    split at h
    · rename_i hq; exact liftP (pick_sound (K := fun v => K v st) ho hq h)
    · exact h.elim
  · rename_i ho; exact alloc_sound ho h
  · rename_i ho; exact box_sound ho h
  · rename_i ho; exact liftP (build_sound (K := fun v => K v st) ho (by rw [Array.toList_map]; exact h))
  · rename_i ho; exact buildSlice_sound ho (by rw [Array.toList_map]; exact h)
  · rename_i ho; exact lift1 (load_sound (K := fun v => K v st) ho h)
  · rename_i ho; exact store_sound ho h
  · rename_i ho; exact liftP (nil_sound (K := fun v => K v st) ho h)
  · rename_i ho; exact liftP (bin_sound (K := fun v => K v st) ho h)
  · rename_i ho; exact liftP (un_sound (K := fun v => K v st) ho h)
  · rename_i ho
    split at h
    · rename_i hx; exact lift1 (b2s_sound (K := fun v => K v st) ho (by rw [hx]; exact h))
    · rename_i hx
      split at h
      · exact s2b_sound ho (by rw [hx]; exact h)
      · exact liftP (conv_sound (K := fun v => K v st) ho (by rw [hx]; exact h))
    · exact liftP (conv_sound (K := fun v => K v st) ho h)
  · rename_i t x ho
    cases hd : P.underlying t with
    | none => rw [hd] at h; exact h.elim
    | some d =>
      rw [hd] at h
      cases d <;> first
        | exact h.elim
        | (obtain ⟨h1, h⟩ := bs_false h
           exact liftP (makeIface_sound (K := fun v => K v st) ho hd (by intro ms; simp) h1 h))
  · rename_i ho
    obtain ⟨h1, h⟩ := bs_false h
    simp only [Bool.and_eq_true] at h1
    have e : ∀ xs : Array Operand, (xs.toList.map (ev st.t)).toArray = xs.map (ev st.t) := fun xs => by apply Array.ext'; simp
    rw [e, e] at h
    exact liftP (makeFunc_sound (K := fun v => K v st) ho h1.1 h1.2 h)
  · rename_i ho; exact make_sound ho h
  · rename_i ho; exact liftP (slice_sound (K := fun v => K v st) ho h)
  · rename_i ho; exact liftP (fieldAddr_sound (K := fun v => K v st) ho h)
  · rename_i ho; exact liftP (field_sound (K := fun v => K v st) ho h)
  · rename_i ho; exact liftP (indexAddr_sound (K := fun v => K v st) ho h)
  · rename_i ho; exact liftP (index_sound (K := fun v => K v st) ho h)
  · rename_i ho; exact liftP (extract_sound (K := fun v => K v st) ho h)
  · rename_i c ho
    have arr : ∀ {α : Type} {A : Array α} {l : List α}, A.toList = l → A = l.toArray := fun h => by rw [← h]
    split at h
    · rename_i f hc; exact call_sound ho hc rfl h
    · rename_i hc
      split at h
      · rename_i x t ts h1 h2; exact liftP (len_sound (K := fun v => K v st) ho hc (arr h1) (by rw [arr h2]; rfl) h)
      · exact h.elim
    · rename_i hc
      split at h
      · rename_i x t ts h1 h2; exact liftP (cap_sound (K := fun v => K v st) ho hc (arr h1) (by rw [arr h2]; rfl) h)
      · exact h.elim
    · rename_i hc
      split at h
      · rename_i x y h1; exact liftP (min_sound (K := fun v => K v st) ho hc (arr h1) h)
      · exact h.elim
    · rename_i hc
      split at h
      · rename_i x y h1; exact liftP (max_sound (K := fun v => K v st) ho hc (arr h1) h)
      · exact h.elim
    · rename_i hc
      split at h
      · rename_i x y t t' h1 h2; exact append_sound ho hc (arr h1) (arr h2) h
      · exact h.elim
    · exact h.elim
  · exact h.elim
end
end Go.Abs
