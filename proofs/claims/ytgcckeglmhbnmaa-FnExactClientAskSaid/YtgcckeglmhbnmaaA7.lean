/- Struct values built, cuts of strings and slices. -/
import Derived.Test.YtgcckeglmhbnmaaA6
namespace Go.Abs

/-- Where part i of a struct or an array lies: offset, cells. -/
def placeOf (P : Program) (t : TypeId) (i : Nat) : Option (Nat × Nat) :=
  match P.underlying t with
  | some (.struct fs) => match fs[i]? with
    | some fd => (szOf P fd.type).map fun z => (fd.offset, z)
    | none => none
  | some (.array _ e) => (szOf P e).map fun z => (i * z, z)
  | _ => none

def fillL (place : Nat → Option (Nat × Nat)) (cells : List Value) : List (Nat × Value) → Option (List Value)
  | [] => some cells
  | (i, v) :: rest =>
    match place i with
    | none => none
    | some (off, z) => bif okv v && decide ((cellsL v).length = z) && decide (off + z ≤ cells.length) then fillL place (setRange cells off (cellsL v)) rest else none

def placesOk (P : Program) (t : TypeId) : Bool :=
  match P.underlying t with
  | some (.struct fs) => fs.toList.all fun fd => (szOf P fd.type).isSome
  | some (.array _ e) => (szOf P e).isSome
  | _ => false

def vcBuild (P : Program) (t : TypeId) (parts : List (Nat × Value)) (K : Value → Prop) : Prop :=
  match zeroOf P t with
  | some z => bs (plain z && placesOk P t) (match fillL (placeOf P t) (cellsL z) parts with
    | some cells => K (.agg cells.toArray)
    | none => False) False
  | none => False

theorem foldl_set {A : Array Value} (off : Nat) : ∀ (l : List Value) (k : Nat) (j : Nat), (((l.zipIdx k).foldl (fun cs (x : Value × Nat) => cs.setIfInBounds (off + x.2) x.1) A)[j]?) = if off + k ≤ j ∧ j < off + k + l.length ∧ j < A.size then l[j - (off + k)]? else A[j]? := by
  intro l
  induction l generalizing A with
  | nil => intro k j; rw [if_neg (by simp only [List.length_nil]; omega)]; rfl
  | cons x l ih =>
    intro k j
    rw [List.zipIdx_cons, List.foldl_cons, ih]
    simp only [Array.size_setIfInBounds, List.length_cons]
    by_cases h1 : off + (k + 1) ≤ j ∧ j < off + (k + 1) + l.length ∧ j < A.size
    · rw [if_pos h1, if_pos (by omega), show j - (off + k) = (j - (off + (k + 1))) + 1 from by omega, List.getElem?_cons_succ]
    · rw [if_neg h1]
      by_cases h2 : j = off + k
      · subst h2
        by_cases h3 : off + k < A.size
        · rw [if_pos (by omega), Array.getElem?_setIfInBounds_self, if_pos h3, Nat.sub_self, List.getElem?_cons_zero]
        · rw [if_neg (by omega), Array.getElem?_setIfInBounds_self, if_neg h3, Array.getElem?_eq_none (by omega)]
      · rw [Array.getElem?_setIfInBounds_ne (by omega), if_neg (by omega)]

theorem foldl_set_size {A : Array Value} (off : Nat) : ∀ (l : List (Value × Nat)), (l.foldl (fun cs (x : Value × Nat) => cs.setIfInBounds (off + x.2) x.1) A).size = A.size := by
  intro l
  induction l generalizing A with
  | nil => rfl
  | cons x l ih => rw [List.foldl_cons, ih, Array.size_setIfInBounds]

theorem fill_rel {L : Lay} {place : Nat → Option (Nat × Nat)} : ∀ (parts : List (Nat × Value)) (PARTS : List (Nat × Value)) (cells : List Value) (A : Array Value) (out : List Value), fillL place cells parts = some out → LRel L cells A →
    parts.length = PARTS.length → (∀ (j : Nat) (x X : Nat × Value), parts[j]? = some x → PARTS[j]? = some X → x.1 = X.1 ∧ (okv x.2 = true → VRel L x.2 X.2)) → ∃ B, Instr.fill place A PARTS = some B ∧ LRel L out B
  | [], PARTS, cells, A, out, h, hr, hl, _ => by
    cases PARTS with
    | nil => exact ⟨A, rfl, by simp only [fillL, Option.some.injEq] at h; exact h ▸ hr⟩
    | cons _ _ => simp at hl
  | (i, v) :: rest, PARTS, cells, A, out, h, hr, hl, hp => by
    cases PARTS with
    | nil => simp at hl
    | cons X RE =>
    obtain ⟨I, V⟩ := X
    obtain ⟨e1, hV⟩ := hp 0 (i, v) (I, V) rfl rfl
    dsimp only at e1 hV; subst e1
    unfold fillL at h
    split at h
    · cases h
    rename_i off z hpl
    cases hq : (okv v && decide ((cellsL v).length = z) && decide (off + z ≤ cells.length)) with
    | false => rw [hq] at h; cases h
    | true =>
    rw [hq] at h
    simp only [Bool.and_eq_true, decide_eq_true_eq] at hq
    obtain ⟨⟨hok, hz⟩, hoff⟩ := hq
    have hc := cells_rel (hV hok)
    have hsz : V.cells.size = z := by rw [← hc.1]; exact hz
    unfold Instr.fill
    rw [hpl]
    simp only [hsz]
    rw [if_neg (by have := hr.1; simp; omega)]
    refine fill_rel rest RE _ _ out h ?_ (by simpa using hl) (fun j x X hx hX => hp (j + 1) x X hx hX)
    have e : ∀ j, (V.cells.zipIdx.foldl (fun cs (x : Value × Nat) => cs.setIfInBounds (off + x.2) x.1) A)[j]? = if off ≤ j ∧ j < off + V.cells.size ∧ j < A.size then V.cells[j - off]? else A[j]? := by
      intro j
      rw [← Array.foldl_toList, Array.toList_zipIdx, foldl_set off V.cells.toList 0 j]
      simp only [Nat.add_zero, Array.length_toList, Array.getElem?_toList]
    refine ⟨?_, fun j x hx => ?_⟩
    · rw [setRange_length (by omega), ← Array.foldl_toList]; rw [foldl_set_size]; exact hr.1
    · rw [e]
      rw [setRange_get (by omega)] at hx
      have := hr.1
      split at hx
      · rw [if_neg (by omega)]; exact hr.2 j x hx
      · split at hx
        · rw [if_pos (by omega)]
          have hlt : j - off < V.cells.size := by omega
          exact ⟨V.cells[j - off], Array.getElem?_eq_getElem hlt, hc.2 _ x _ hx (Array.getElem?_eq_getElem hlt)⟩
        · rw [if_neg (by omega)]; exact hr.2 j x hx

theorem parts_rel {L : Lay} {lam : List Nat} {t : Nat → Value} {a : Act} (kn : Known L lam t a.tmps) (ps : Array (Nat × Operand)) :
    (ps.map fun x => (x.1, ev t x.2)).toList.length = (ps.map fun (x : Nat × Operand) => (x.1, a.eval x.2)).toList.length ∧ ∀ (j : Nat) (x X : Nat × Value), (ps.map fun x => (x.1, ev t x.2)).toList[j]? = some x → (ps.map fun (x : Nat × Operand) => (x.1, a.eval x.2)).toList[j]? = some X → x.1 = X.1 ∧ (okv x.2 = true → VRel L x.2 X.2) := by
  refine ⟨by simp, fun j x X h1 h2 => ?_⟩
  simp only [Array.toList_map, List.getElem?_map, Option.map_eq_some_iff] at h1 h2
  obtain ⟨y, hy, rfl⟩ := h1
  obtain ⟨z, hz, rfl⟩ := h2
  obtain rfl := Option.some.inj (hy.symm.trans hz)
  exact ⟨rfl, fun h => kn.ok h⟩

section
variable {P : Program} {nt : Nat} {o : Oper} {st : St}

theorem run_places {w : World} : ∀ (fs : List Field), (fs.all fun fd => (szOf P fd.type).isSome) = true → (fs.mapM (m := Sem) fun f => do pure (f.offset, ← sizeOf f.type)).run P w = .ok (fs.map fun f => (f.offset, (szOf P f.type).getD 0)) w
  | [], _ => by simp
  | f :: fs, h => by
    simp only [List.all_cons, Bool.and_eq_true] at h
    obtain ⟨z, hz⟩ := Option.isSome_iff_exists.1 h.1
    have ih := run_places (w := w) fs h.2
    simp [List.mapM_cons, size_run hz, ih, hz] at ih ⊢
    simp [ih]

theorem build_sound {t : TypeId} {ps : Array (Nat × Operand)} {K : Value → Prop} (ho : o.op = .build t ps) (h : vcBuild P t (ps.map fun x => (x.1, ev st.t x.2)).toList K) : ∃ v, K v ∧ PSem P o st.t v := by
  unfold vcBuild at h
  split at h
  case h_2 => exact h.elim
  rename_i z hz
  obtain ⟨hc, h⟩ := bs_false h
  simp only [Bool.and_eq_true] at hc
  obtain ⟨hp, hpl⟩ := hc
  split at h
  case h_2 => exact h.elim
  rename_i cells hf
  refine ⟨_, h, .pure fun L lam a kn => ?_⟩
  have hzc := cells_rel (VRel.plain (L := L) hp)
  obtain ⟨B, hB, hR⟩ := fill_rel (L := L) _ _ _ _ cells hf (.of hzc.1 hzc.2) (parts_rel kn ps).1 (parts_rel kn ps).2
  refine ⟨.agg B, .inr (.of (.agg (by rw [List.size_toArray]; exact hR.1) fun i v V h1 h2 => hR.two i v V (by rw [List.getElem?_toArray] at h1; exact h1) h2)), fun w => ?_⟩
  unfold placesOk at hpl
  split at hpl
  · rename_i fs hu
    have hm := run_places (P := P) (w := w) fs.toList hpl
    have hplace : (fun i => (fs.map fun f => (f.offset, (szOf P f.type).getD 0))[i]?) = placeOf P t := by
      funext i
      simp only [placeOf, hu, Array.getElem?_map]
      cases hfi : fs[i]? with
      | none => rfl
      | some fd =>
        have := List.all_eq_true.1 hpl fd (Array.mem_toList_iff.2 (Array.mem_of_getElem? hfi))
        obtain ⟨y, hy⟩ := Option.isSome_iff_exists.1 this
        simp [hy]
    have hm' : (fs.mapM (m := Sem) fun f => do pure (f.offset, ← sizeOf f.type)).run P w = .ok (fs.map fun f => (f.offset, (szOf P f.type).getD 0)) w := by
      rw [Array.mapM_eq_mapM_toList]
      simp only [Sem.run_bind, hm, Result.andThen_ok, map_eq_pure_bind, Sem.run_pure]
      congr 1
      rw [← Array.toList_map, Array.toArray_toList]
    rw [← hplace] at hB
    unfold execOp; rw [ho]
    simp only [Instr.build, Sem.run_bind, zero_run hz, run_underlying hu, Result.andThen_ok, hm']
    rw [hB]
    simp
  · rename_i n e hu
    have hplace : placeOf P t = fun i => (szOf P e).map fun z => (i * z, z) := by funext i; simp [placeOf, hu]
    obtain ⟨y, hy⟩ := Option.isSome_iff_exists.1 hpl
    rw [hplace, hy] at hB
    unfold execOp; rw [ho]
    simp only [Instr.build, Sem.run_bind, zero_run hz, run_underlying hu, Result.andThen_ok, size_run hy]
    simp only [Option.map_some] at hB
    rw [hB]
    simp
  · cases hpl
theorem bound_run {v : Value} {k : IntKind} {n : Int} {y : Nat} (hv : v = .int k n) (h0 : 0 ≤ n) (hy : n ≤ y) (c : BoundsCode) (w : World) : (Instr.sliceBound v y c).run P w = .ok n.toNat w := by
  subst hv; simp [Instr.sliceBound, asIntOf, h0, hy]

theorem bounds_run {isS : Bool} {len cap : Nat} {lo hi mx : Option Value} {l h m : Int} (hlo : (lo = none ∧ l = 0) ∨ ∃ k, lo = some (.int k l)) (hhi : (hi = none ∧ h = len ∧ mx = none) ∨ ∃ k, hi = some (.int k h))
    (hmx : (mx = none ∧ m = cap) ∨ ∃ k, mx = some (.int k m)) (h0 : 0 ≤ l) (h1 : l ≤ h) (h2 : h ≤ m) (h3 : m ≤ cap) (w : World) : (Instr.sliceBounds isS len cap lo hi mx).run P w = .ok (l.toNat, h.toNat, m.toNat) w := by
  have e1 : ∀ (c : BoundsCode) (k : IntKind), (Instr.sliceBound (.int k l) h.toNat c).run P w = .ok l.toNat w := fun c k => bound_run rfl h0 (by omega) c w
  have e2 : ∀ (c : BoundsCode) (k : IntKind), (Instr.sliceBound (.int k h) m.toNat c).run P w = .ok h.toNat w := fun c k => bound_run rfl (by omega) (by omega) c w
  have e3 : ∀ (c : BoundsCode) (k : IntKind), (Instr.sliceBound (.int k m) cap c).run P w = .ok m.toNat w := fun c k => bound_run rfl (by omega) (by omega) c w
  unfold Instr.sliceBounds
  rcases hmx with ⟨rfl, rfl⟩ | ⟨k3, rfl⟩
  · have e2' : ∀ (c : BoundsCode) (k : IntKind), (Instr.sliceBound (.int k h) cap c).run P w = .ok h.toNat w := e2
    rcases hhi with ⟨rfl, rfl, _⟩ | ⟨k2, rfl⟩
    · have e1' : ∀ (c : BoundsCode) (k : IntKind), (Instr.sliceBound (.int k l) len c).run P w = .ok l.toNat w := e1
      rcases hlo with ⟨rfl, rfl⟩ | ⟨k1, rfl⟩ <;> simp [e1']
    · rcases hlo with ⟨rfl, rfl⟩ | ⟨k1, rfl⟩ <;> simp [e1, e2']
  · rcases hhi with ⟨_, _, hh⟩ | ⟨k2, rfl⟩
    · cases hh
    · rcases hlo with ⟨rfl, rfl⟩ | ⟨k1, rfl⟩ <;> simp [e1, e2, e3]

theorem vcBound_cases {t : Nat → Value} {x : Option Operand} {d : Int} {Q : Int → Prop} (h : vcBound (x.map (ev t)) d Q) : (x = none ∧ Q d) ∨ ∃ y k n, x = some y ∧ ev t y = .int k n ∧ Q n := by
  unfold vcBound at h
  cases x with
  | none => exact .inl ⟨rfl, h⟩
  | some y =>
    simp only [Option.map_some] at h
    right
    cases hy : ev t y <;> rw [hy] at h <;> first | exact h.elim | skip
    exact ⟨y, _, _, rfl, hy, h⟩

theorem slice_sound {t : TypeId} {x : Operand} {lo hi mx : Option Operand} {K : Value → Prop} (ho : o.op = .slice t x lo hi mx) (h : vcSlice P t (ev st.t x) (lo.map (ev st.t)) (hi.map (ev st.t)) (mx.map (ev st.t)) K) : ∃ v, K v ∧ PSem P o st.t v := by
  have exec : ∀ (a : Act) (w : World) (d : TypeDesc) (V : Value), P.underlying t = some d → (∀ n e, d ≠ .array n e) → (Instr.slice t (a.eval x) (lo.map a.eval) (hi.map a.eval) (mx.map a.eval)).run P w = .ok V w → (execOp a.eval o).run P w = .ok (.value V) w := by
    intro a w d V hd hna hr
    unfold execOp; rw [ho]
    simp only [Instr.sliceAt, Sem.run_bind, run_underlying hd, Result.andThen_ok]
    cases d <;> first | exact absurd rfl (hna _ _) | simp [hr]
  have los : ∀ (L : Lay) (lam : List Nat) (a : Act), Known L lam st.t a.tmps → ∀ (l : Int), ((lo = none ∧ l = 0) ∨ ∃ y k, lo = some y ∧ ev st.t y = .int k l) → (lo.map a.eval = none ∧ l = 0) ∨ ∃ k, lo.map a.eval = some (.int k l) := by
    intro L lam a kn l hl
    rcases hl with ⟨rfl, rfl⟩ | ⟨y, k, rfl, hy⟩
    · exact .inl ⟨rfl, rfl⟩
    · exact .inr ⟨k, by simp [kn.int hy]⟩
  have loc : ∀ {Q : Int → Prop}, vcBound (lo.map (ev st.t)) 0 Q → ∃ l, ((lo = none ∧ l = 0) ∨ ∃ y k, lo = some y ∧ ev st.t y = .int k l) ∧ Q l := by
    intro Q hq
    rcases vcBound_cases hq with ⟨e, q⟩ | ⟨y, k, n, e1, e2, q⟩
    · exact ⟨0, .inl ⟨e, rfl⟩, q⟩
    · exact ⟨n, .inr ⟨y, k, e1, e2⟩, q⟩
  have hic : ∀ {Q : Int → Prop} {d : Int}, vcBound (hi.map (ev st.t)) d Q → ∃ l, ((hi = none ∧ l = d) ∨ ∃ y k, hi = some y ∧ ev st.t y = .int k l) ∧ Q l := by
    intro Q d hq
    rcases vcBound_cases hq with ⟨e, q⟩ | ⟨y, k, n, e1, e2, q⟩
    · exact ⟨d, .inl ⟨e, rfl⟩, q⟩
    · exact ⟨n, .inr ⟨y, k, e1, e2⟩, q⟩
  unfold vcSlice at h
  split at h
  · rename_i hu
    split at h
    case h_2 => exact h.elim
    rename_i s hx hmx
    have hmx' : mx = none := by cases mx <;> simp at hmx ⊢
    obtain ⟨l, hl, h⟩ := loc h
    obtain ⟨hh, hhi, h0, h1, h2, h⟩ := hic h
    refine ⟨_, h, .pure fun L lam a kn => ⟨_, .inr (.of (.string _)), fun w => exec a w _ _ hu (by simp) ?_⟩⟩
    have hb : (Instr.sliceBounds false s.size s.size (lo.map a.eval) (hi.map a.eval) none).run P w = .ok (l.toNat, hh.toNat, s.size) w := by
      have := bounds_run (P := P) (isS := false) (len := s.size) (cap := s.size) (lo := lo.map a.eval) (hi := hi.map a.eval) (mx := none) (l := l) (h := hh) (m := s.size) (los L lam a kn l hl) (by
        rcases hhi with ⟨rfl, rfl⟩ | ⟨y, k, rfl, hy⟩
        · exact .inl ⟨rfl, rfl, rfl⟩
        · exact .inr ⟨k, by simp [kn.int hy]⟩) (.inl ⟨rfl, rfl⟩) h0 h1 h2 (Int.le_refl _) w
      simpa using this
    subst hmx'
    simp [Instr.slice, run_underlying hu, kn.string hx, hb]
  · rename_i e hu
    split at h
    case h_2 => exact h.elim
    rename_i ad n c z hx hz
    -- the slice in the model
    have key : ∀ (L : Lay) (lam : List Nat) (a : Act), Known L lam st.t a.tmps → (ad = none ∧ n = 0 ∧ c = 0 ∧ a.eval x = .slice none 0 0) ∨ ∃ b r s A C, ad = some ⟨b, r, some s.esz⟩ ∧ L b = some s ∧ a.eval x = .slice (some A) n C ∧ n ≤ C ∧ (C = 0 ∨ A = ⟨s.blk, s.base + r * s.esz, none⟩) ∧ (s.rw = true → s.base + (r + C) * s.esz ≤ s.bsz) ∧ (c = 0 ∨ c = C + 1) := by
      intro L lam a kn
      have rl : VRel L _ _ := kn.of hx (by simp [undef])
      generalize a.eval x = X at rl
      cases rl with
      | sliceN => exact .inl ⟨rfl, rfl, rfl, rfl⟩
      | slice hL he hn ha room hc => subst he; exact .inr ⟨_, _, _, _, _, rfl, hL, rfl, hn, ha, room, hc⟩
    split at h
    · rename_i hmx
      have hmx' : mx = none := by cases mx <;> simp at hmx ⊢
      obtain ⟨l, hl, h⟩ := loc h
      obtain ⟨hh, hhi, h0, h1, h2, hsp, h⟩ := hic h
      refine ⟨_, h, .pure fun L lam a kn => ?_⟩
      have hb : ∀ (C : Nat), n ≤ C → ∀ w, (Instr.sliceBounds true n C (lo.map a.eval) (hi.map a.eval) none).run P w = .ok (l.toNat, hh.toNat, C) w := by
        intro C hC w
        have := bounds_run (P := P) (isS := true) (len := n) (cap := C) (lo := lo.map a.eval) (hi := hi.map a.eval) (mx := none) (l := l) (h := hh) (m := C) (los L lam a kn l hl) (by
          rcases hhi with ⟨rfl, rfl⟩ | ⟨y, k, rfl, hy⟩
          · exact .inl ⟨rfl, rfl, rfl⟩
          · exact .inr ⟨k, by simp [kn.int hy]⟩) (.inl ⟨rfl, rfl⟩) h0 h1 (by omega) (Int.le_refl _) w
        simpa using this
      subst hmx'
      rcases key L lam a kn with ⟨rfl, rfl, rfl, e1⟩ | ⟨b, r, s, A, C, rfl, hs, e1, hn, ha, room, hc⟩
      · have hl0 : l = 0 := by omega
        have hh0 : hh = 0 := by omega
        subst hl0; subst hh0
        refine ⟨.slice none 0 0, .inr (.of .sliceN), fun w => exec a w _ _ hu (by simp) ?_⟩
        simp [Instr.slice, run_underlying hu, e1, hb 0 (Nat.le_refl _) w, size_run hz]
      · have hez : s.esz = z := by have := hsp _ rfl; simpa using this
        refine ⟨.slice (some (if C = l.toNat then A else A.add (l.toNat * z))) (hh.toNat - l.toNat) (C - l.toNat), .inr (.of ?_), fun w => exec a w _ _ hu (by simp) ?_⟩
        · refine VRel.slice (s := s) hs rfl (by omega) ?_ ?_ ?_
          · by_cases hC : C = l.toNat
            · exact .inl (by omega)
            · right
              rw [if_neg hC, ha.resolve_left (by omega), add_addr, hez]
              show (⟨s.blk, s.base + r * z + l.toNat * z, none⟩ : Addr) = ⟨s.blk, s.base + (r + l.toNat) * z, none⟩
              congr 1; rw [Nat.add_mul]; omega
          · intro hrw
            have := room hrw
            rw [show r + l.toNat + (C - l.toNat) = r + C from by omega]; exact this
          · rcases hc with rfl | rfl
            · exact .inl rfl
            · right; simp; omega
        · rw [e1]
          simp only [Instr.slice, Sem.run_bind, run_underlying hu, Result.andThen_ok, hb C hn w, size_run hz, Sem.run_pure, Option.map_none]
          by_cases hC : C = l.toNat <;> simp [hC]
    · rename_i km m hmx
      obtain ⟨l, hl, hq⟩ := loc h
      clear h
      split at hq
      case h_2 => exact hq.elim
      rename_i kh hh hhi
      obtain ⟨h0, h1, h2, h3, hsp, his, h⟩ := hq
      obtain ⟨ym, rfl, hym⟩ : ∃ y, mx = some y ∧ ev st.t y = .int km m := by cases mx <;> simp at hmx; exact ⟨_, rfl, hmx⟩
      obtain ⟨yh, rfl, hyh⟩ : ∃ y, hi = some y ∧ ev st.t y = .int kh hh := by cases hi <;> simp at hhi; exact ⟨_, rfl, hhi⟩
      refine ⟨_, h, .pure fun L lam a kn => ?_⟩
      rcases key L lam a kn with ⟨rfl, rfl, rfl, e1⟩ | ⟨b, r, s, A, C, rfl, hs, e1, hn, ha, room, hc⟩
      · cases his
      · have hez : s.esz = z := by have := hsp _ rfl; simpa using this
        have hb : ∀ w, (Instr.sliceBounds true n C (lo.map a.eval) (some (a.eval yh)) (some (a.eval ym))).run P w = .ok (l.toNat, hh.toNat, m.toNat) w := fun w =>
          bounds_run (P := P) (isS := true) (len := n) (cap := C) (l := l) (h := hh) (m := m) (los L lam a kn l hl) (.inr ⟨kh, by rw [kn.int hyh]⟩) (.inr ⟨km, by rw [kn.int hym]⟩) h0 h1 h2 (by omega) w
        refine ⟨.slice (some (if m.toNat = l.toNat then A else A.add (l.toNat * z))) (hh.toNat - l.toNat) (m.toNat - l.toNat), .inr (.of ?_), fun w => exec a w _ _ hu (by simp) ?_⟩
        · refine VRel.slice (s := s) hs rfl (by omega) ?_ ?_ (.inr rfl)
          · by_cases hC : m.toNat = l.toNat
            · exact .inl (by omega)
            · right
              rw [if_neg hC, ha.resolve_left (by omega), add_addr, hez]
              show (⟨s.blk, s.base + r * z + l.toNat * z, none⟩ : Addr) = ⟨s.blk, s.base + (r + l.toNat) * z, none⟩
              congr 1; rw [Nat.add_mul]; omega
          · intro hrw
            have h5 := room hrw
            show s.base + (r + l.toNat + (m.toNat - l.toNat)) * s.esz ≤ s.bsz
            have h6 : (r + l.toNat + (m.toNat - l.toNat)) * s.esz ≤ (r + C) * s.esz := Nat.mul_le_mul_right _ (by omega)
            omega
        · rw [e1]
          simp only [Instr.slice, Sem.run_bind, run_underlying hu, Result.andThen_ok, Option.map_some, hb w, size_run hz, Sem.run_pure]
          by_cases hC : m.toNat = l.toNat <;> simp [hC]
    · exact h.elim
  · exact h.elim
end
end Go.Abs
