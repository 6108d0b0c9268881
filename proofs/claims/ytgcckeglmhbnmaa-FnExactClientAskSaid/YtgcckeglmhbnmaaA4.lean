/- More operations that look at slots alone: conversions, fields, indexes, cuts, lengths, function values. -/
import Derived.Test.YtgcckeglmhbnmaaA3
namespace Go.Abs

def okv : Value → Bool
  | .tuple _ => false
  | .complex _ _ _ => false
  | _ => true

theorem SVRel.ok {L : Lay} {lam : List Nat} {v V : Value} (h : SVRel L lam v V) (hv : okv v = true) : VRel L v V := by
  cases v <;> first | exact h | cases hv
theorem okv_ne {v : Value} (h : okv v = true) : v ≠ undef := by rintro rfl; cases h
theorem Known.ok {L : Lay} {lam : List Nat} {t : Nat → Value} {a : Act} (k : Known L lam t a.tmps) {x : Operand} (h : okv (Abs.ev t x) = true) : VRel L (Abs.ev t x) (a.eval x) :=
  (k.of rfl (okv_ne h)).ok h

def szOf (P : Program) (t : TypeId) : Option Nat := (P.info? t).map (·.size)
def aggOf (P : Program) (t : TypeId) : Option Bool := match P.underlying t with | some (.struct _) | some (.array _ _) => some true | some _ => some false | none => none

/-- A value out of its cells. -/
def mkV (agg : Bool) (vs : List Value) : Value := match agg with | true => .agg vs.toArray | false => vs.headD undef

def byteAt (s : ByteArray) (i : Int) : Int := ((s.data.toList.getD i.toNat 0).toNat : Int)
def shiftA (a : Option Addr) (k : Nat) : Option Addr := a.map fun x => ⟨x.block, x.off + k, x.spot⟩

def vcUn (op : UnOp) (v : Value) (K : Value → Prop) : Prop :=
  match op, v with
  | .neg, .int k n => K (.int k (k.wrap (0 - n)))
  | .xor, .int k n => K (.int k (ibits .xor k (match k.signed with | true => -1 | false => k.max) n))
  | .not, .bool b => K (.bool (!b))
  | _, _ => False

def vcConv (P : Program) (src dst : TypeId) (v : Value) (K : Value → Prop) : Prop :=
  match v with
  | .int _ n => match P.underlying src, P.underlying dst with
    | some _, some (.int k) => K (.int k (k.wrap n))
    | _, _ => False
  | .string s => match P.underlying src, P.underlying dst with
    | some _, some .string => K (.string s)
    | _, _ => False
  | _ => False

def vcNil (v : Value) (K : Value → Prop) : Prop :=
  match v with
  | .pointer (some ⟨l, r, some c⟩) => K (.pointer (some ⟨l, r, some c⟩))
  | .complex .f32 i c => K (.complex .f32 i c)
  | .func (.func f) a b => K (.func (.func f) a b)
  | _ => False

def vcFieldAddr (P : Program) (s : TypeId) (v : Value) (f : Nat) (K : Value → Prop) : Prop :=
  match P.underlying s with
  | some (.struct fs) => match fs[f]? with
    | some fd => match szOf P fd.type with
      | some (_ + 1) => match v with
        | .complex .f32 i c => K (.complex .f32 i (c + fd.offset))
        | .pointer (some ⟨l, r, some c⟩) => K (.pointer (some ⟨l, r, some (c + fd.offset)⟩))
        | _ => False
      | _ => False
    | none => False
  | _ => False

def vcPart (P : Program) (t : TypeId) (cs : List Value) (off : Nat) (K : Value → Prop) : Prop :=
  match aggOf P t, szOf P t with
  | some true, some n => K (.agg ((cs.drop off).take n).toArray)
  | some false, _ => match cs[off]? with
    | some v => K v
    | none => False
  | _, _ => False

def vcField (P : Program) (s : TypeId) (v : Value) (f : Nat) (K : Value → Prop) : Prop :=
  match P.underlying s with
  | some (.struct fs) => match fs[f]? with
    | some fd => match v with
      | .agg cs => vcPart P fd.type cs.toList fd.offset K
      | _ => False
    | none => False
  | _ => False

def vcIndex (P : Program) (t : TypeId) (v : Value) (i : Value) (K : Value → Prop) : Prop :=
  match i with
  | .int _ n => match P.underlying t with
    | some .string => match v with
      | .string s => 0 ≤ n ∧ n < s.size ∧ K (.int .u8 (byteAt s n))
      | _ => False
    | some (.array len e) => match v, szOf P e with
      | .agg cs, some z => 0 ≤ n ∧ n < len ∧ vcPart P e cs.toList (n.toNat * z) K
      | _, _ => False
    | _ => False
  | _ => False

def vcIndexAddr (P : Program) (t : TypeId) (v : Value) (i : Value) (K : Value → Prop) : Prop :=
  match i with
  | .int _ n => match P.underlying t with
    | some (.slice e) => match v, szOf P e with
      | .slice a m _, some z => ∃ l r, a = some ⟨l, r, some z⟩ ∧ 0 ≤ n ∧ n < m ∧ K (.pointer (some ⟨l, r + n.toNat, some 0⟩))
      | _, _ => False
    | some (.array len e) => match szOf P e with
      | some z => match v with
        | .complex .f32 j c => 0 ≤ n ∧ n < len ∧ K (.complex .f32 j (c + n.toNat * z))
        | .pointer (some ⟨l, r, some c⟩) => 0 ≤ n ∧ n < len ∧ K (.pointer (some ⟨l, r, some (c + n.toNat * z)⟩))
        | _ => False
      | none => False
    | _ => False
  | _ => False

/-- A bound of a cut: the number itself, or what stands for it. -/
def vcBound (v : Option Value) (d : Int) (K : Int → Prop) : Prop :=
  match v with
  | none => K d
  | some (.int _ n) => K n
  | _ => False

def vcSlice (P : Program) (t : TypeId) (v : Value) (lo hi mx : Option Value) (K : Value → Prop) : Prop :=
  match P.underlying t with
  | some .string => match v, mx with
    | .string s, none => vcBound lo 0 fun l => vcBound hi s.size fun h => 0 ≤ l ∧ l ≤ h ∧ h ≤ s.size ∧ K (.string (s.extract l.toNat h.toNat))
    | _, _ => False
  | some (.slice e) => match v, szOf P e with
    | .slice a n c, some z => match mx with
      | none => vcBound lo 0 fun l => vcBound hi n fun h => 0 ≤ l ∧ l ≤ h ∧ h ≤ n ∧ (∀ x, a = some x → x.spot = some z) ∧ K (.slice (shiftA a l.toNat) (h.toNat - l.toNat) (bif c == 0 then 0 else c - l.toNat))
      | some (.int _ m) => vcBound lo 0 fun l => (match hi with | some (.int _ h) => 0 ≤ l ∧ l ≤ h ∧ h ≤ m ∧ m ≤ n ∧ (∀ x, a = some x → x.spot = some z) ∧ a.isSome = true ∧ K (.slice (shiftA a l.toNat) (h.toNat - l.toNat) (m.toNat - l.toNat + 1)) | _ => False)
      | _ => False
    | _, _ => False
  | _ => False

def vcLen (P : Program) (t : TypeId) (v : Value) (K : Value → Prop) : Prop :=
  match P.underlying t with
  | some .string => match v with | .string s => K (.int .i64 s.size) | _ => False
  | some (.slice _) => match v with | .slice _ n _ => K (.int .i64 n) | _ => False
  | some (.array n _) => K (.int .i64 n)
  | _ => False

def vcCap (P : Program) (t : TypeId) (v : Value) (K : Value → Prop) : Prop :=
  match P.underlying t with
  | some (.slice _) => match v with | .slice _ _ c => c ≠ 0 ∧ K (.int .i64 ((c - 1 : Nat) : Int)) | _ => False
  | _ => False

def vcMin (a b : Value) (K : Value → Prop) : Prop :=
  match a, b with
  | .int k x, .int _ y => K (.int k (if y < x then y else x))
  | _, _ => False
def vcMax (a b : Value) (K : Value → Prop) : Prop :=
  match a, b with
  | .int k x, .int _ y => K (.int k (if y > x then y else x))
  | _, _ => False

def vcExtract (v : Value) (i : Nat) (K : Value → Prop) : Prop :=
  match v with
  | .tuple vs => match vs.toList[i]? with
    | some x => K x
    | none => False
  | _ => False

section
variable {P : Program} {nt : Nat} {o : Oper} {st : St} {K : Value → Prop}

theorem move_sound {x : Operand} (ho : o.op = .move x ∨ o.op = .assign x) (h : K (ev st.t x)) : ∃ v, K v ∧ PSem P o st.t v :=
  ⟨_, h, .pure fun L lam a kn => ⟨a.eval x, kn.ev x, fun w => by unfold execOp; rcases ho with ho | ho <;> rw [ho] <;> rfl⟩⟩

theorem pick_sound {c x y : Operand} (ho : o.op = .pick c x y) {q : Bool} (hq : ev st.t c = .bool q) (h : bs q (K (ev st.t x)) (K (ev st.t y))) : ∃ v, K v ∧ PSem P o st.t v := by
  rcases bs_cases h with ⟨rfl, h⟩ | ⟨rfl, h⟩
  · exact ⟨_, h, .pure fun L lam a kn => ⟨a.eval x, kn.ev x, fun w => by unfold execOp; rw [ho]; simp [kn.bool hq, asBool]⟩⟩
  · exact ⟨_, h, .pure fun L lam a kn => ⟨a.eval y, kn.ev y, fun w => by unfold execOp; rw [ho]; simp [kn.bool hq, asBool]⟩⟩

theorem un_sound {op : UnOp} {t : TypeId} {x : Operand} (ho : o.op = .unOp op t x) (h : vcUn op (ev st.t x) K) : ∃ v, K v ∧ PSem P o st.t v := by
  unfold vcUn at h
  split at h
  · rename_i k n hx
    exact ⟨_, h, .pure fun L lam a kn => ⟨_, .inr (.of (.int _ _)), fun w => by unfold execOp; rw [ho]; simp [kn.int hx, Op.unary, Op.intArith]⟩⟩
  · rename_i k n hx
    exact ⟨_, h, .pure fun L lam a kn => ⟨_, .inr (.of (.int _ _)), fun w => by unfold execOp; rw [ho]; cases hs : k.signed <;> simp [kn.int hx, Op.unary, Op.intBits, ibits, hs]⟩⟩
  · rename_i b hx
    exact ⟨_, h, .pure fun L lam a kn => ⟨_, .inr (.of (.bool _)), fun w => by unfold execOp; rw [ho]; simp [kn.bool hx, Op.unary]⟩⟩
  · exact h.elim

theorem conv_sound {src dst : TypeId} {x : Operand} (ho : o.op = .convert src dst x) (h : vcConv P src dst (ev st.t x) K) : ∃ v, K v ∧ PSem P o st.t v := by
  unfold vcConv at h
  split at h
  · rename_i k n hx
    split at h
    · rename_i d q h1 h2
      exact ⟨_, h, .pure fun L lam a kn => ⟨_, .inr (.of (.int _ _)), fun w => by unfold execOp; rw [ho]; simp [kn.int hx, convert, run_underlying h1, run_underlying h2, Conv.intToInt]⟩⟩
    · exact h.elim
  · rename_i s hx
    split at h
    · rename_i d h1 h2
      exact ⟨_, h, .pure fun L lam a kn => ⟨_, .inr (.of (.string _)), fun w => by unfold execOp; rw [ho]; simp [kn.string hx, convert, run_underlying h1, run_underlying h2]⟩⟩
    · exact h.elim
  · exact h.elim

theorem nil_sound {x : Operand} (ho : o.op = .nilCheck x) (h : vcNil (ev st.t x) K) : ∃ v, K v ∧ PSem P o st.t v := by
  unfold vcNil at h
  split at h
  · rename_i l r c hx
    refine ⟨_, h, .pure fun L lam a kn => ?_⟩
    obtain ⟨s, hs, e⟩ := (kn.of hx (by simp [undef])).ptr
    exact ⟨_, .inr (.of (.ptr hs)), fun w => by unfold execOp; rw [ho]; simp [e]⟩
  · rename_i i c hx
    refine ⟨_, h, .pure fun L lam a kn => ?_⟩
    obtain ⟨b, hb, e⟩ := (kn.of hx (by simp [undef])).lptr
    exact ⟨_, .inr ⟨b, hb, rfl⟩, fun w => by unfold execOp; rw [ho]; simp [e]⟩
  · rename_i f x1 x2 hx
    refine ⟨_, h, .pure fun L lam a kn => ?_⟩
    have r : VRel L _ _ := kn.of hx (by simp [undef])
    have e : ∃ A B, a.eval x = .func (.func f) A B := by
      generalize a.eval x = X at r
      cases r; exact ⟨_, _, rfl⟩
    obtain ⟨A, B, e⟩ := e
    exact ⟨a.eval x, .inr (.of r), fun w => by unfold execOp; rw [ho]; simp [e]⟩
  · exact h.elim

theorem add_addr (b o k : Nat) : (⟨b, o, none⟩ : Addr).add k = ⟨b, o + k, none⟩ := by
  unfold Addr.add; split
  · rename_i h; subst h; rfl
  · rfl

theorem size_run {t : TypeId} {n : Nat} (h : szOf P t = some n) (w : World) : (sizeOf t).run P w = .ok n w := by
  unfold szOf at h
  cases hi : P.info? t with
  | none => rw [hi] at h; cases h
  | some i => rw [hi] at h; simp at h; simp [sizeOf, typeInfo, hi, h]
theorem agg_run {t : TypeId} {b : Bool} (h : aggOf P t = some b) (w : World) : (isAgg t).run P w = .ok b w := by
  unfold aggOf at h
  cases hi : P.underlying t with
  | none => rw [hi] at h; cases h
  | some d => rw [hi] at h; cases d <;> simp at h <;> subst h <;> simp [isAgg, run_underlying hi]

theorem fieldAddr_sound {s : TypeId} {x : Operand} {f : Nat} (ho : o.op = .fieldAddr s x f) (h : vcFieldAddr P s (ev st.t x) f K) : ∃ v, K v ∧ PSem P o st.t v := by
  unfold vcFieldAddr at h
  split at h
  case h_2 => exact h.elim
  rename_i fs hu
  split at h
  case h_2 => exact h.elim
  rename_i fd hf
  split at h
  case h_2 => exact h.elim
  rename_i m hsz
  have run : ∀ (b off : Nat) (w : World), (fieldPlace ⟨b, off, none⟩ fd).run P w = .ok ⟨b, off + fd.offset, none⟩ w := by
    intro b off w
    simp [fieldPlace, size_run hsz, add_addr]
  split at h
  · rename_i i c hx
    refine ⟨_, h, .pure fun L lam a kn => ?_⟩
    obtain ⟨b, hb, e⟩ := (kn.of hx (by simp [undef])).lptr
    exact ⟨_, .inr ⟨b, hb, rfl⟩, fun w => by unfold execOp; rw [ho]; simp [e, Instr.fieldAt, run_underlying hu, hf, Instr.sureAddr, run]⟩
  · rename_i l r c hx
    refine ⟨_, h, .pure fun L lam a kn => ?_⟩
    obtain ⟨q, hq, e⟩ := (kn.of hx (by simp [undef])).ptr
    exact ⟨_, .inr (.of (.ptr hq)), fun w => by unfold execOp; rw [ho]; simp [e, Instr.fieldAt, run_underlying hu, hf, Instr.sureAddr, run, Nat.add_assoc]⟩
  · exact h.elim

theorem part_sound {t : TypeId} {cs : List Value} {off : Nat} (h : vcPart P t cs off K) : ∃ v, K v ∧ ∀ (L : Lay) (ds : Array Value), cs.length = ds.size → (∀ (j : Nat) (x X : Value), cs[j]? = some x → ds[j]? = some X → VRel L x X) →
    ∃ V, VRel L v V ∧ ∀ w, (part t ds off).run P w = .ok V w := by
  unfold vcPart at h
  split at h
  · rename_i n ha hn
    refine ⟨_, h, fun L ds hl hv => ⟨.agg (ds.extract off (off + n)), .agg ?_ ?_, fun w => ?_⟩⟩
    · simp only [List.size_toArray, List.length_take, List.length_drop, Array.size_extract]; omega
    · intro i v V h1 h2
      simp only [List.getElem?_toArray, List.getElem?_take, List.getElem?_drop, Array.getElem?_extract] at h1 h2
      split at h1
      · split at h2
        · exact hv _ _ _ h1 h2
        · cases h2
      · cases h1
    · simp [part, agg_run ha, size_run hn]
  · rename_i ha
    split at h
    · rename_i v hv'
      refine ⟨v, h, fun L ds hl hv => ?_⟩
      have hlt : off < ds.size := by have := (List.getElem?_eq_some_iff.1 hv').1; omega
      refine ⟨ds[off], hv off v _ hv' (Array.getElem?_eq_getElem hlt), fun w => ?_⟩
      simp [part, agg_run ha, Array.getElem?_eq_getElem hlt]
    · exact h.elim
  · exact h.elim

theorem agg_list {L : Lay} {cs ds : Array Value} (h : ARel L cs ds) : cs.toList.length = ds.size ∧ ∀ (j : Nat) (x X : Value), cs.toList[j]? = some x → ds[j]? = some X → VRel L x X :=
  ⟨by rw [Array.length_toList]; exact h.1, fun j x X h1 h2 => h.2 j x X (by rw [← Array.getElem?_toList]; exact h1) h2⟩

theorem field_sound {s : TypeId} {x : Operand} {f : Nat} (ho : o.op = .field s x f) (h : vcField P s (ev st.t x) f K) : ∃ v, K v ∧ PSem P o st.t v := by
  unfold vcField at h
  split at h
  case h_2 => exact h.elim
  rename_i fs hu
  split at h
  case h_2 => exact h.elim
  rename_i fd hf
  split at h
  case h_2 => exact h.elim
  rename_i cs hx
  obtain ⟨v, hk, hp⟩ := part_sound h
  refine ⟨v, hk, .pure fun L lam a kn => ?_⟩
  obtain ⟨ds, e, r⟩ := (kn.of hx (by simp [undef])).agg
  obtain ⟨V, hV, hr⟩ := hp L ds (agg_list r).1 (agg_list r).2
  exact ⟨V, .inr (.of hV), fun w => by unfold execOp; rw [ho]; simp [e, Instr.field, run_underlying hu, hf, asAgg, hr]⟩

theorem index_sound {t : TypeId} {x i : Operand} (ho : o.op = .index t x i) (h : vcIndex P t (ev st.t x) (ev st.t i) K) : ∃ v, K v ∧ PSem P o st.t v := by
  unfold vcIndex at h
  split at h
  case h_2 => exact h.elim
  rename_i k n hi
  split at h
  · rename_i hu
    split at h
    case h_2 => exact h.elim
    rename_i s hx
    obtain ⟨h0, h1, h⟩ := h
    refine ⟨_, h, .pure fun L lam a kn => ⟨_, .inr (.of (.int _ _)), fun w => ?_⟩⟩
    have hlt : n.toNat < s.size := by omega
    have hb : byteAt s n = ((s[n.toNat]'hlt).toNat : Int) := by
      unfold byteAt
      have : n.toNat < s.data.toList.length := by rw [Array.length_toList]; exact hlt
      rw [List.getD_eq_getElem?_getD, List.getElem?_eq_getElem this]; rfl
    unfold execOp; rw [ho]
    simp [kn.int hi, kn.string hx, Instr.index, asIntOf, run_underlying hu, h0, hlt, hb]
  · rename_i len e hu
    split at h
    case h_2 => exact h.elim
    rename_i cs z hx hz
    obtain ⟨h0, h1, h⟩ := h
    obtain ⟨v, hk, hp⟩ := part_sound h
    refine ⟨v, hk, .pure fun L lam a kn => ?_⟩
    obtain ⟨ds, e1, r⟩ := (kn.of hx (by simp [undef])).agg
    obtain ⟨V, hV, hr⟩ := hp L ds (agg_list r).1 (agg_list r).2
    exact ⟨V, .inr (.of hV), fun w => by unfold execOp; rw [ho]; simp [kn.int hi, e1, Instr.index, asIntOf, run_underlying hu, h0, h1, size_run hz, hr]⟩
  · exact h.elim

theorem indexAddr_sound {t : TypeId} {x i : Operand} (ho : o.op = .indexAddr t x i) (h : vcIndexAddr P t (ev st.t x) (ev st.t i) K) : ∃ v, K v ∧ PSem P o st.t v := by
  unfold vcIndexAddr at h
  split at h
  case h_2 => exact h.elim
  rename_i k n hi
  split at h
  · rename_i e hu
    split at h
    case h_2 => exact h.elim
    rename_i ad m c z hx hz
    obtain ⟨l, r, rfl, h0, h1, h⟩ := h
    refine ⟨_, h, .pure fun L lam a kn => ?_⟩
    have rl : VRel L _ _ := kn.of hx (by simp [undef])
    have key : ∃ s A C, L l = some s ∧ s.esz = z ∧ a.eval x = .slice (some A) m C ∧ A = ⟨s.blk, s.base + r * z, none⟩ := by
      generalize a.eval x = X at rl
      cases rl with
      | slice h he hn ha room hc => exact ⟨_, _, _, h, he, rfl, ha.resolve_left (by omega)⟩
    obtain ⟨s, A, C, hl, he, e1, rfl⟩ := key
    refine ⟨_, .inr (.of (.ptr hl)), fun w => ?_⟩
    unfold execOp; rw [ho]
    simp [kn.int hi, e1, Instr.indexAt, asIntOf, run_underlying hu, h0, h1, size_run hz, add_addr, he, Nat.add_mul, Nat.add_assoc]
  · rename_i len e hu
    split at h
    case h_2 => exact h.elim
    rename_i z hz
    split at h
    · rename_i j c hx
      obtain ⟨h0, h1, h⟩ := h
      refine ⟨_, h, .pure fun L lam a kn => ?_⟩
      obtain ⟨b, hb, e1⟩ := (kn.of hx (by simp [undef])).lptr
      exact ⟨_, .inr ⟨b, hb, rfl⟩, fun w => by unfold execOp; rw [ho]; simp [kn.int hi, e1, Instr.indexAt, asIntOf, Instr.sureAddr, run_underlying hu, h0, h1, size_run hz, add_addr]⟩
    · rename_i l r c hx
      obtain ⟨h0, h1, h⟩ := h
      refine ⟨_, h, .pure fun L lam a kn => ?_⟩
      obtain ⟨s, hs, e1⟩ := (kn.of hx (by simp [undef])).ptr
      exact ⟨_, .inr (.of (.ptr hs)), fun w => by unfold execOp; rw [ho]; simp [kn.int hi, e1, Instr.indexAt, asIntOf, Instr.sureAddr, run_underlying hu, h0, h1, size_run hz, add_addr, Nat.add_assoc]⟩
    · exact h.elim
  · exact h.elim

theorem len_sound {c : Call} {x : Operand} {t : TypeId} (ho : o.op = .call c) (hc : c.callee = .builtin .len) (ha : c.args = #[x]) (ht : c.argTypes[0]? = some t) (h : vcLen P t (ev st.t x) K) : ∃ v, K v ∧ PSem P o st.t v := by
  have run : ∀ (a : Act) (w : World) (V : Value), (Builtin.len_ c.argTypes o.type #[a.eval x]).run P w = .ok V w → (execOp a.eval o).run P w = .ok (.value V) w := by
    intro a w V hr
    unfold execOp; rw [ho]
    simp [resolve, hc, ha, invoke, builtin, hr]
  unfold vcLen at h
  split at h
  · rename_i hu
    split at h
    case h_2 => exact h.elim
    rename_i s hx
    exact ⟨_, h, .pure fun L lam a kn => ⟨_, .inr (.of (.int _ _)), fun w => run a w _ (by simp [Builtin.len_, ht, run_underlying hu, kn.string hx, goInt])⟩⟩
  · rename_i e hu
    split at h
    case h_2 => exact h.elim
    rename_i ad m cc hx
    refine ⟨_, h, .pure fun L lam a kn => ⟨_, .inr (.of (.int _ _)), fun w => run a w _ ?_⟩⟩
    have rl : VRel L _ _ := kn.of hx (by simp [undef])
    have key : ∃ A C, a.eval x = .slice A m C := by
      generalize a.eval x = X at rl
      cases rl
      · exact ⟨_, _, rfl⟩
      · exact ⟨_, _, rfl⟩
    obtain ⟨A, C, e1⟩ := key
    simp [Builtin.len_, ht, run_underlying hu, e1, goInt]
  · rename_i n e hu
    exact ⟨_, h, .pure fun L lam a kn => ⟨_, .inr (.of (.int _ _)), fun w => run a w _ (by simp [Builtin.len_, ht, run_underlying hu, goInt])⟩⟩
  · exact h.elim

theorem cap_sound {c : Call} {x : Operand} {t : TypeId} (ho : o.op = .call c) (hc : c.callee = .builtin .cap) (ha : c.args = #[x]) (ht : c.argTypes[0]? = some t) (h : vcCap P t (ev st.t x) K) : ∃ v, K v ∧ PSem P o st.t v := by
  unfold vcCap at h
  split at h
  · rename_i e hu
    split at h
    case h_2 => exact h.elim
    rename_i ad m cc hx
    obtain ⟨h0, h⟩ := h
    refine ⟨_, h, .pure fun L lam a kn => ⟨_, .inr (.of (.int _ _)), fun w => ?_⟩⟩
    have rl : VRel L _ _ := kn.of hx (by simp [undef])
    have key : ∃ A, a.eval x = .slice A m (cc - 1) := by
      generalize a.eval x = X at rl
      cases rl with
      | sliceN => exact absurd rfl h0
      | slice h he hn ha room hc => rcases hc with rfl | rfl
                                    · exact absurd rfl h0
                                    · exact ⟨_, rfl⟩
    obtain ⟨A, e1⟩ := key
    unfold execOp; rw [ho]
    simp [resolve, hc, ha, invoke, builtin, Builtin.cap_, ht, run_underlying hu, e1, goInt]
  · exact h.elim

theorem min_sound {c : Call} {x y : Operand} (ho : o.op = .call c) (hc : c.callee = .builtin .min) (ha : c.args = #[x, y]) (h : vcMin (ev st.t x) (ev st.t y) K) : ∃ v, K v ∧ PSem P o st.t v := by
  unfold vcMin at h
  split at h
  · rename_i k m k' n hx hy
    exact ⟨_, h, .pure fun L lam a kn => ⟨_, .inr (.of (.int _ _)), fun w => by
      unfold execOp; rw [ho]
      simp [resolve, hc, ha, invoke, builtin, Builtin.min_, kn.int hx, kn.int hy, Builtin.min2]⟩⟩
  · exact h.elim
theorem max_sound {c : Call} {x y : Operand} (ho : o.op = .call c) (hc : c.callee = .builtin .max) (ha : c.args = #[x, y]) (h : vcMax (ev st.t x) (ev st.t y) K) : ∃ v, K v ∧ PSem P o st.t v := by
  unfold vcMax at h
  split at h
  · rename_i k m k' n hx hy
    exact ⟨_, h, .pure fun L lam a kn => ⟨_, .inr (.of (.int _ _)), fun w => by
      unfold execOp; rw [ho]
      simp [resolve, hc, ha, invoke, builtin, Builtin.max_, kn.int hx, kn.int hy, Builtin.max2]⟩⟩
  · exact h.elim

theorem extract_sound {x : Operand} {i : Nat} (ho : o.op = .extract x i) (h : vcExtract (ev st.t x) i K) : ∃ v, K v ∧ PSem P o st.t v := by
  unfold vcExtract at h
  split at h
  case h_2 => exact h.elim
  rename_i vs hx
  split at h
  case h_2 => exact h.elim
  rename_i v hv
  refine ⟨v, h, .pure fun L lam a kn => ?_⟩
  rw [Array.getElem?_toList] at hv
  have hne : vs.size ≠ 0 := by have := (Array.getElem?_eq_some_iff.1 hv).1; omega
  obtain ⟨ds, e, s1, r⟩ := (kn.of hx (by intro e; apply hne; simp [undef] at e; rw [e]; rfl)).tuple
  have hlt : i < ds.size := by have := (Array.getElem?_eq_some_iff.1 hv).1; omega
  exact ⟨ds[i], .inr (.of (r i v _ hv (Array.getElem?_eq_getElem hlt))), fun w => by unfold execOp; rw [ho]; simp [e, Instr.extract, Array.getElem?_eq_getElem hlt]⟩

theorem args_rel {L : Lay} {lam : List Nat} {a : Act} (kn : Known L lam st.t a.tmps) (xs : Array Operand) (h : xs.toList.all (fun x => okv (ev st.t x)) = true) : ARel L (xs.map (ev st.t)) (xs.map a.eval) := by
  refine ⟨by simp, fun i v V h1 h2 => ?_⟩
  simp only [Array.getElem?_map, Option.map_eq_some_iff] at h1 h2
  obtain ⟨x, hx, rfl⟩ := h1
  obtain ⟨y, hy, rfl⟩ := h2
  obtain rfl := Option.some.inj (hx.symm.trans hy)
  exact kn.ok (List.all_eq_true.1 h x (Array.mem_toList_iff.2 (Array.mem_of_getElem? hx)))

theorem makeFunc_sound {fn : Fn} {xs ys : Array Operand} (ho : o.op = .makeFunc fn xs ys) (h1 : xs.toList.all (fun x => okv (ev st.t x)) = true) (h2 : ys.toList.all (fun x => okv (ev st.t x)) = true)
    (h : K (.func fn (xs.map (ev st.t)) (ys.map (ev st.t)))) : ∃ v, K v ∧ PSem P o st.t v :=
  ⟨_, h, .pure fun L lam a kn => ⟨_, .inr (.of (.fn fn (args_rel kn xs h1).1 (args_rel kn xs h1).2 (args_rel kn ys h2).1 (args_rel kn ys h2).2)), fun w => by unfold execOp; rw [ho]; simp [Instr.makeFunc]⟩⟩

theorem makeIface_sound {t : TypeId} {x : Operand} {d : TypeDesc} (ho : o.op = .makeInterface t x) (hd : P.underlying t = some d) (hn : ∀ ms, d ≠ .interface ms) (hx : okv (ev st.t x) = true) (h : K (.iface t (ev st.t x))) : ∃ v, K v ∧ PSem P o st.t v :=
  ⟨_, h, .pure fun L lam a kn => ⟨_, .inr (.of (.iface t (kn.ok hx))), fun w => by
    unfold execOp; rw [ho]; simp [Instr.makeInterface, run_underlying hd]
    try (split; exact absurd rfl (hn _); rfl)⟩⟩
end
end Go.Abs
