/- Operations that look at slots alone; what an operation does not look at does not matter. -/
import Derived.Test.YtgcckeglmhbnmaaA13
namespace Go.Abs

def pureNow (o : Oper) (t : Nat → Value) : Bool :=
  match o.op with
  | .move _ | .assign _ | .build _ _ | .nilCheck _ | .binOp _ _ _ _ _ | .unOp _ _ _ | .makeInterface _ _ | .makeFunc _ _ _ | .slice _ _ _ _ _ | .fieldAddr _ _ _ | .field _ _ _ | .indexAddr _ _ _ | .index _ _ _ | .extract _ _ | .pick _ _ _ => true
  | .convert _ _ x => match ev t x with
    | .int _ _ => true
    | _ => false
  | .call c => match c.callee with
    | .builtin .len | .builtin .cap | .builtin .min | .builtin .max => true
    | _ => false
  | _ => false

section
variable {P : Program} {nt : Nat} {o : Oper} {st : St}

theorem pure_sound {E : Tmp → Bool} {K : Value → St → Prop} (hp : pureNow o st.t = true) (h : vcOp P E o st K) : ∃ v, K v st ∧ PSem P o st.t v := by
  unfold vcOp at h
  unfold pureNow at hp
  split at h
  · rename_i ho; exact move_sound (K := fun v => K v st) (.inl ho) h
  · rename_i ho; exact move_sound (K := fun v => K v st) (.inr ho) h
  · rename_i ho
    split at h
    · rename_i hq; exact pick_sound (K := fun v => K v st) ho hq h
    · exact h.elim
  · rename_i ho; rw [ho] at hp; cases hp
  · rename_i ho; rw [ho] at hp; cases hp
  · rename_i ho; exact build_sound (K := fun v => K v st) ho (by rw [Array.toList_map]; exact h)
  · rename_i ho; rw [ho] at hp; cases hp
  · rename_i ho; rw [ho] at hp; cases hp
  · rename_i ho; rw [ho] at hp; cases hp
  · rename_i ho; exact nil_sound (K := fun v => K v st) ho h
  · rename_i ho; exact bin_sound (K := fun v => K v st) ho h
  · rename_i ho; exact un_sound (K := fun v => K v st) ho h
  · rename_i ho
    rw [ho] at hp
    dsimp only at hp
    split at h
    · rename_i hx; rw [hx] at hp; cases hp
    · rename_i hx; rw [hx] at hp; cases hp
    · exact conv_sound (K := fun v => K v st) ho h
  · rename_i t x ho
    cases hd : P.underlying t with
    | none => rw [hd] at h; exact h.elim
    | some d =>
      rw [hd] at h
      cases d <;> first
        | exact h.elim
        | (obtain ⟨h1, h⟩ := bs_false h
           exact makeIface_sound (K := fun v => K v st) ho hd (by intro ms; simp) h1 h)
  · rename_i ho
    obtain ⟨h1, h⟩ := bs_false h
    simp only [Bool.and_eq_true] at h1
    have e : ∀ xs : Array Operand, (xs.toList.map (ev st.t)).toArray = xs.map (ev st.t) := fun xs => by apply Array.ext'; simp
    rw [e, e] at h
    exact makeFunc_sound (K := fun v => K v st) ho h1.1 h1.2 h
  · rename_i ho; rw [ho] at hp; cases hp
  · rename_i ho; exact slice_sound (K := fun v => K v st) ho h
  · rename_i ho; exact fieldAddr_sound (K := fun v => K v st) ho h
  · rename_i ho; exact field_sound (K := fun v => K v st) ho h
  · rename_i ho; exact indexAddr_sound (K := fun v => K v st) ho h
  · rename_i ho; exact index_sound (K := fun v => K v st) ho h
  · rename_i ho; exact extract_sound (K := fun v => K v st) ho h
  · rename_i c ho
    rw [ho] at hp
    dsimp only at hp
    have arr : ∀ {α : Type} {A : Array α} {l : List α}, A.toList = l → A = l.toArray := fun h => by rw [← h]
    split at h
    · rename_i f hc; rw [hc] at hp; cases hp
    · rename_i hc
      split at h
      · rename_i x t ts h1 h2; exact len_sound (K := fun v => K v st) ho hc (arr h1) (by rw [arr h2]; rfl) h
      · exact h.elim
    · rename_i hc
      split at h
      · rename_i x t ts h1 h2; exact cap_sound (K := fun v => K v st) ho hc (arr h1) (by rw [arr h2]; rfl) h
      · exact h.elim
    · rename_i hc
      split at h
      · rename_i x y h1; exact min_sound (K := fun v => K v st) ho hc (arr h1) h
      · exact h.elim
    · rename_i hc
      split at h
      · rename_i x y h1; exact max_sound (K := fun v => K v st) ho hc (arr h1) h
      · exact h.elim
    · rename_i hc; rw [hc] at hp; cases hp
    · exact h.elim
  · exact h.elim

/-- Reads the heap and changes nothing. -/
def readNow (o : Oper) (t : Nat → Value) : Bool :=
  match o.op with
  | .load _ _ => true
  | .convert _ _ x => match ev t x with
    | .slice _ _ _ => true
    | _ => false
  | _ => false

theorem read_sound {E : Tmp → Bool} {K : Value → St → Prop} (hp : readNow o st.t = true) (h : vcOp P E o st K) : ∃ v, K v st ∧ OpSem P nt o st v st := by
  unfold vcOp at h
  unfold readNow at hp
  split at hp
  · rename_i ho; rw [ho] at h; exact load_sound (K := fun v => K v st) ho h
  · rename_i ho
    rw [ho] at h
    dsimp only at h
    split at hp
    · rename_i hx; rw [hx] at h; exact b2s_sound (K := fun v => K v st) ho (by rw [hx]; exact h)
    · cases hp
  · cases hp

theorem vcOp_congr {E : Tmp → Bool} {t t' : Nat → Value} {S : List (List Value)} {hp : AHeap} (h : ∀ x ∈ o.op.operands, ev t' x = ev t x) {C : Value → List (List Value) → AHeap → Prop}
    (k : vcOp P E o ⟨t, S, hp⟩ fun v st => C v st.S st.h) : vcOp P E o ⟨t', S, hp⟩ fun v st => C v st.S st.h := by
  obtain ⟨dst, op, type, pos, after, guard⟩ := o
  have pairs : ∀ ps : Array (Nat × Operand), (∀ x ∈ (ps.toList.map (·.2)).toArray, ev t' x = ev t x) →
      (ps.toList.map fun x => (x.1, ev t' x.2)) = (ps.toList.map fun x => (x.1, ev t x.2)) := fun ps hps =>
    List.map_congr_left fun p hm => by
      obtain ⟨i, x⟩ := p
      simp only [hps x (by simpa using ⟨i, Array.mem_toList_iff.1 hm⟩)]
  have maps : ∀ ps : Array Operand, (∀ x ∈ ps, ev t' x = ev t x) → ps.map (ev t') = ps.map (ev t) := fun ps hps => Array.map_congr_left fun x hx => hps x hx
  have mapsL : ∀ ps : Array Operand, (∀ x ∈ ps, ev t' x = ev t x) → ps.toList.map (ev t') = ps.toList.map (ev t) := fun ps hps => List.map_congr_left fun x hx => hps x (by simpa using hx)
  have oks : ∀ ps : Array Operand, (∀ x ∈ ps, ev t' x = ev t x) → (ps.toList.all fun x => okv (ev t' x)) = (ps.toList.all fun x => okv (ev t x)) := fun ps hps => by
    apply Bool.eq_iff_iff.2
    simp only [List.all_eq_true, Array.mem_toList_iff]
    exact ⟨fun h x hx => by rw [← hps x hx]; exact h x hx, fun h x hx => by rw [hps x hx]; exact h x hx⟩
  cases op <;> simp only [Op.operands] at h <;> simp only [vcOp] at k ⊢
  case build t0 ps => rw [pairs ps h]; exact k
  case buildSlice t0 n ps => rw [pairs ps h]; exact k
  case makeFunc fn xs ys =>
    have h1 : ∀ x ∈ xs, ev t' x = ev t x := fun x hx => h x (by simp [hx])
    have h2 : ∀ x ∈ ys, ev t' x = ev t x := fun x hx => h x (by simp [hx])
    rw [oks xs h1, oks ys h2, mapsL xs h1, mapsL ys h2]; exact k
  case slice t0 x lo hi mx =>
    have e : ∀ y : Option Operand, (∀ z ∈ y.toArray, ev t' z = ev t z) → y.map (ev t') = y.map (ev t) := fun y hy => by
      cases y with
      | none => rfl
      | some z => simp only [Option.map_some]; rw [hy z (by simp)]
    rw [h x (by simp), e lo fun z hz => h z (by simp at hz ⊢; simp [hz]), e hi fun z hz => h z (by simp at hz ⊢; simp [hz]), e mx fun z hz => h z (by simp at hz ⊢; simp [hz])]
    exact k
  case call c =>
    obtain ⟨callee, args, argTypes⟩ := c
    simp only [Call.operands] at h
    have ha : ∀ x ∈ args, ev t' x = ev t x := fun x hx => h x (by simp [hx])
    dsimp only at k ⊢
    split at k
    · rename_i f
      unfold vcCall at k ⊢
      rw [h f (by simp), mapsL args ha, oks args ha]; exact k
    all_goals
      obtain ⟨l⟩ := args
      first
        | exact k
        | (obtain ⟨ts⟩ := argTypes
           rcases l with _ | ⟨x, _ | ⟨y, _ | ⟨z, l⟩⟩⟩ <;> rcases ts with _ | ⟨t1, _ | ⟨t2, _ | ⟨t3, ts⟩⟩⟩ <;> dsimp only at k ⊢ <;> first
            | exact k
            | (rw [ha x (by simp)]; exact k)
            | (rw [ha x (by simp), ha y (by simp)]; exact k))
  all_goals first
    | exact k
    | (rw [h _ (by simp)]; exact k)
    | (rw [h _ (by simp), h _ (by simp)]; exact k)
    | (simp_all; done)
end
end Go.Abs
