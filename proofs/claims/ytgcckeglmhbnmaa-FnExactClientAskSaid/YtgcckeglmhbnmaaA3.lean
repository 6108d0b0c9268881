/- What operations on plain values come to: arithmetic, comparisons, strings, structs by value. -/
import Derived.Test.YtgcckeglmhbnmaaA2
import Derived.Laws.StructEq
import Derived.Laws.Unary
namespace Go.Abs

/-- A test: both ways, or the one that is known. -/
def bs (q : Bool) (x y : Prop) : Prop := match q with | true => x | false => y
theorem bs_iff (q : Bool) (x y : Prop) : bs q x y ↔ ((q = true → x) ∧ (q = false → y)) := by cases q <;> simp [bs]

def ibits (op : BinOp) (k : IntKind) (a b : Int) : Int :=
  let x := BitVec.ofInt k.bits a
  let y := BitVec.ofInt k.bits b
  match op with
  | .and => k.wrap (x &&& y).toNat
  | .or => k.wrap (x ||| y).toNat
  | .xor => k.wrap (x ^^^ y).toNat
  | _ => k.wrap (x &&& ~~~y).toNat

def vcInt (op : BinOp) (k : IntKind) (a b : Int) (K : Value → Prop) : Prop :=
  match op with
  | .add => K (.int k (k.wrap (a + b)))
  | .sub => K (.int k (k.wrap (a - b)))
  | .mul => K (.int k (k.wrap (a * b)))
  | .quo => b ≠ 0 ∧ K (.int k (k.wrap (a.tdiv b)))
  | .rem => b ≠ 0 ∧ K (.int k (a.tmod b))
  | .and => K (.int k (ibits .and k a b))
  | .or => K (.int k (ibits .or k a b))
  | .xor => K (.int k (ibits .xor k a b))
  | .andNot => K (.int k (ibits .andNot k a b))
  | .eql => K (.bool (decide (a = b)))
  | .neq => K (.bool (!decide (a = b)))
  | .lss => K (.bool (decide (a < b)))
  | .leq => K (.bool (decide (a ≤ b)))
  | .gtr => K (.bool (decide (a > b)))
  | .geq => K (.bool (decide (a ≥ b)))
  | _ => False

def vcStr (op : BinOp) (a b : ByteArray) (K : Value → Prop) : Prop :=
  match op with
  | .add => a.size + b.size ≤ 9223372036854775807 ∧ K (.string (a ++ b))
  | .eql => K (.bool (decide (a = b)))
  | .neq => K (.bool (!decide (a = b)))
  | .lss => K (.bool (Op.bytesLess a.toList b.toList))
  | .leq => K (.bool (Op.bytesLess a.toList b.toList || decide (a = b)))
  | .gtr => K (.bool (!(Op.bytesLess a.toList b.toList || decide (a = b))))
  | .geq => K (.bool (!Op.bytesLess a.toList b.toList))
  | _ => False

/-- Cells of plain kinds: may they be compared, and are they equal? -/
def leafOk : List Value → List Value → Bool
  | [], [] => true
  | .int k _ :: xs, .int k' _ :: ys => k == k' && leafOk xs ys
  | .string _ :: xs, .string _ :: ys => leafOk xs ys
  | .bool _ :: xs, .bool _ :: ys => leafOk xs ys
  | _, _ => false
def leafEq : List Value → List Value → Bool
  | [], [] => true
  | .int _ a :: xs, .int _ b :: ys => decide (a = b) && leafEq xs ys
  | .string a :: xs, .string b :: ys => decide (a = b) && leafEq xs ys
  | .bool a :: xs, .bool b :: ys => a == b && leafEq xs ys
  | _, _ => false

/-- A struct type all of whose fields are plain, one cell each, and count. -/
def flatField (P : Program) (f : Field) (v : Value) (i : Nat) : Bool :=
  f.name != "_" && f.offset == i && (match v, P.underlying f.type with | .int _ _, some (.int _) | .string _, some .string | .bool _, some .bool => true | _, _ => false)
def flatFields (P : Program) : List Field → List Value → Nat → Bool
  | [], [], _ => true
  | f :: fs, v :: vs, i => flatField P f v i && flatFields P fs vs (i + 1)
  | _, _, _ => false
def flatStruct (P : Program) (t : TypeId) (vs : List Value) : Bool :=
  (match P.underlying t with | some (.struct fs) => flatFields P fs.toList vs 0 | _ => false) && !P.stoodInHeld t && !P.eqGuardType P.depth t

def isConst : Operand → Bool
  | .const _ => true
  | _ => false

def vcBin (P : Program) (op : BinOp) (t : TypeId) (x y : Operand) (a b : Value) (K : Value → Prop) : Prop :=
  match a, b with
  | .int k m, .int k' n =>
    match op with
    | .shl => 0 ≤ n ∧ K (.int k (k.wrap (m * 2 ^ (min n.toNat k.bits))))
    | .shr => 0 ≤ n ∧ K (.int k (m.fdiv (2 ^ (min n.toNat k.bits))))
    | op => bs (decide (k = k')) (vcInt op k m n K) False
  | .string m, .string n => vcStr op m n K
  | .bool m, .bool n => match P.underlying t with
    | some .bool => (match op with
      | .eql => K (.bool (m == n))
      | .neq => K (.bool (!(m == n)))
      | _ => False)
    | _ => False
  | .slice m i j, .slice none _ _ => match P.underlying t with
    | some (.slice _) => (match op with
      | .eql => K (.bool m.isNone)
      | .neq => K (.bool (!m.isNone))
      | _ => (i = i ∧ j = j ∧ False))
    | _ => False
  | .pointer m, .pointer none => match P.underlying t with
    | some (.pointer _) => (match op with
      | .eql => K (.bool m.isNone)
      | .neq => K (.bool (!m.isNone))
      | _ => False)
    | _ => False
  | .iface _ _, .nilIface => match P.underlying t with
    | some (.interface _) => (match op with
      | .eql => K (.bool false)
      | .neq => K (.bool true)
      | _ => False)
    | _ => False
  | .nilIface, .nilIface => match P.underlying t with
    | some (.interface _) => (bs (isConst x || isConst y) (match op with
      | .eql => K (.bool true)
      | .neq => K (.bool false)
      | _ => False) False)
    | _ => False
  | .agg m, .agg n => bs (flatStruct P t m.toList && leafOk m.toList n.toList) (match op with
      | .eql => K (.bool (leafEq m.toList n.toList))
      | .neq => K (.bool (!leafEq m.toList n.toList))
      | _ => False) False
  | _, _ => False

theorem bs_cases {q : Bool} {x y : Prop} (h : bs q x y) : (q = true ∧ x) ∨ (q = false ∧ y) := by cases q; exact .inr ⟨rfl, h⟩; exact .inl ⟨rfl, h⟩
theorem bs_false {q : Bool} {x : Prop} (h : bs q x False) : q = true ∧ x := (bs_cases h).resolve_right fun h => h.2

theorem toList_beq (a b : ByteArray) : (a.toList == b.toList) = decide (a = b) := by
  by_cases h : a = b
  · subst h; simp
  · rw [decide_eq_false h, beq_eq_false_iff_ne]
    intro e
    apply h
    rw [ByteArray.toList_eq, ByteArray.toList_eq] at e
    cases a; cases b; congr 1; exact Array.toList_inj.1 e

theorem eqf_flat {P : Program} {xs ys : Array Value} (d : Nat) (w : World) : ∀ (fs : List Field) (as bs : List Value) (i : Nat), flatFields P fs as i = true → leafOk as bs = true →
    (∀ (j : Nat) (v : Value), as[j]? = some v → xs[i + j]? = some v) → (∀ (j : Nat) (v : Value), bs[j]? = some v → ys[i + j]? = some v) →
    (Op.eqFields (d + 1) xs ys fs).run P w = .ok (leafEq as bs) w
  | [], as, bs, i, hf, hok, _, _ => by
    cases as with
    | nil => cases bs with
      | nil => simp [Op.eqFields, leafEq]
      | cons b bs => simp [leafOk] at hok
    | cons a as => simp [flatFields] at hf
  | f :: fs, as, bs, i, hf, hok, hx, hy => by
    cases as with
    | nil => simp [flatFields] at hf
    | cons a as =>
    cases bs with
    | nil => cases a <;> simp [leafOk] at hok
    | cons b bs =>
    simp only [flatFields, Bool.and_eq_true] at hf
    obtain ⟨hf1, hf2⟩ := hf
    simp only [flatField, Bool.and_eq_true, bne_iff_ne, beq_iff_eq] at hf1
    obtain ⟨⟨hn, ho⟩, hu⟩ := hf1
    have hxa := hx 0 a rfl
    have hyb := hy 0 b rfl
    rw [Nat.add_zero, ← ho] at hxa hyb
    have ih := fun (h : leafOk as bs = true) => eqf_flat d w fs as bs (i + 1) hf2 h (fun j v hj => by rw [Nat.add_assoc, Nat.add_comm 1 j]; exact hx (j + 1) v hj) (fun j v hj => by rw [Nat.add_assoc, Nat.add_comm 1 j]; exact hy (j + 1) v hj)
    have tail : leafOk as bs = true → (∀ (zs : Array Value) (v : Value), zs[f.offset]? = some v → (part f.type zs f.offset).run P w = .ok v w) → ∀ q, (Op.equalIn (d + 1) f.type a b).run P w = .ok q w → (Op.eqFields (d + 1) xs ys (f :: fs)).run P w = .ok (q && leafEq as bs) w := by
      intro h hpart q hq
      simp only [Op.eqFields, if_pos hn, Sem.run_bind, hpart xs a hxa, hpart ys b hyb, hq, Result.andThen_ok]
      cases q
      · simp
      · simpa using ih h
    cases hd : P.underlying f.type with
    | none => rw [hd] at hu; cases a <;> cases hu
    | some dd =>
    rw [hd] at hu
    cases a <;> cases b <;> simp only [leafOk, Bool.and_eq_true, beq_iff_eq, Bool.false_eq_true] at hok <;> cases dd <;> simp at hu
    case bool.bool.bool p q =>
      exact tail hok (by intro zs v hz; simp [part, isAgg, run_underlying hd, hz]) (p == q) (by simp [Op.equalIn, run_underlying hd])
    case int.int.int k m k' n _ =>
      obtain ⟨rfl, hok⟩ := hok
      exact tail hok (by intro zs v hz; simp [part, isAgg, run_underlying hd, hz]) (m == n) (by simp [Op.equalIn, run_underlying hd])
    case string.string.string p q =>
      have := tail hok (by intro zs v hz; simp [part, isAgg, run_underlying hd, hz]) (p.toList == q.toList) (by rw [← beq_toListBytes]; simp [Op.equalIn, run_underlying hd])
      rw [toList_beq] at this; exact this

theorem exec_bin {P : Program} {o : Oper} {op : BinOp} {t yt : TypeId} {x y : Operand} (ho : o.op = .binOp op t x y yt) {a : Act} {V : Value} {w : World}
    (hg : (eqGuard op t x y (a.eval x) (a.eval y)).run P w = .ok () w) (hb : (binOp op t (a.eval x) (a.eval y)).run P w = .ok V w) : (execOp a.eval o).run P w = .ok (.value V) w := by
  unfold execOp; rw [ho]
  simp only [Sem.run_bind, hg, hb, Result.andThen_ok, Sem.run_pure]

theorem guard_plain {P : Program} {op : BinOp} {t : TypeId} {x y : Operand} {A B : Value} {w : World}
    (h : ∀ cs, A ≠ .agg cs) (h2 : A ≠ .nilIface) : (eqGuard op t x y A B).run P w = .ok () w := by
  unfold eqGuard
  cases op <;> first | rfl | (cases A <;> first | rfl | exact absurd rfl (h _) | exact absurd rfl h2)

section
variable {P : Program} {t : TypeId} {w : World}
theorem eq_bool (hu : P.underlying t = some .bool) (a b : Bool) : (Op.equal t (.bool a) (.bool b)).run P w = .ok (a == b) w := run_equalIn_bool' w 9999 t a b hu
theorem eq_slice_d (d : Nat) {e : TypeId} (hu : P.underlying t = some (.slice e)) (m : Option Addr) (i j k l : Nat) : (Op.equalIn (d + 1) t (.slice m i j) (.slice none k l)).run P w = .ok m.isNone w := by
  cases m <;> simp [Op.equalIn, run_underlying hu]
theorem eq_slice {e : TypeId} (hu : P.underlying t = some (.slice e)) (m : Option Addr) (i j k l : Nat) : (Op.equal t (.slice m i j) (.slice none k l)).run P w = .ok m.isNone w := eq_slice_d 9999 hu m i j k l
theorem eq_ptr_d (d : Nat) {e : TypeId} (hu : P.underlying t = some (.pointer e)) (m : Option Addr) : (Op.equalIn (d + 1) t (.pointer m) (.pointer none)).run P w = .ok m.isNone w := by
  cases m <;> simp [Op.equalIn, run_underlying hu]
theorem eq_ptr {e : TypeId} (hu : P.underlying t = some (.pointer e)) (m : Option Addr) : (Op.equal t (.pointer m) (.pointer none)).run P w = .ok m.isNone w := eq_ptr_d 9999 hu m
theorem eq_if_d (d : Nat) {e : Array (String × TypeId)} (hu : P.underlying t = some (.interface e)) (u : TypeId) (v : Value) : (Op.equalIn (d + 1) t (.iface u v) .nilIface).run P w = .ok false w := by
  simp [Op.equalIn, run_underlying hu]
theorem eq_if {e : Array (String × TypeId)} (hu : P.underlying t = some (.interface e)) (u : TypeId) (v : Value) : (Op.equal t (.iface u v) .nilIface).run P w = .ok false w := eq_if_d 9999 hu u v
theorem eq_nn_d (d : Nat) {e : Array (String × TypeId)} (hu : P.underlying t = some (.interface e)) : (Op.equalIn (d + 1) t .nilIface .nilIface).run P w = .ok true w := by
  simp [Op.equalIn, run_underlying hu]
theorem eq_nn {e : Array (String × TypeId)} (hu : P.underlying t = some (.interface e)) : (Op.equal t .nilIface .nilIface).run P w = .ok true w := eq_nn_d 9999 hu
end

theorem leaf_same {L : Lay} : ∀ {as bs : List Value}, leafOk as bs = true → ∀ (j : Nat) (v : Value), (as[j]? = some v ∨ bs[j]? = some v) → ∀ V, VRel L v V → V = v
  | as, bs, hok, j, v, hv, V, hr => by
    unfold leafOk at hok
    split at hok
    · simp at hv
    · simp only [Bool.and_eq_true] at hok
      cases j with
      | zero => simp at hv; rcases hv with rfl | rfl <;> cases hr <;> rfl
      | succ j => exact leaf_same hok.2 j v (by simpa using hv) V hr
    · cases j with
      | zero => simp at hv; rcases hv with rfl | rfl <;> cases hr <;> rfl
      | succ j => exact leaf_same hok j v (by simpa using hv) V hr
    · cases j with
      | zero => simp at hv; rcases hv with rfl | rfl <;> cases hr <;> rfl
      | succ j => exact leaf_same hok j v (by simpa using hv) V hr
    · cases hok

theorem leaf_both {L : Lay} {as bs : List Value} (hok : leafOk as bs = true) (A B : Array Value) (hA : ∀ (j : Nat) (v : Value), as[j]? = some v → ∃ V, A[j]? = some V ∧ VRel L v V)
    (hB : ∀ (j : Nat) (v : Value), bs[j]? = some v → ∃ V, B[j]? = some V ∧ VRel L v V) :
    (∀ (j : Nat) (v : Value), as[j]? = some v → A[j]? = some v) ∧ (∀ (j : Nat) (v : Value), bs[j]? = some v → B[j]? = some v) :=
  ⟨fun j v hv => let ⟨V, h1, h2⟩ := hA j v hv; (leaf_same hok j v (.inl hv) V h2) ▸ h1, fun j v hv => let ⟨V, h1, h2⟩ := hB j v hv; (leaf_same hok j v (.inr hv) V h2) ▸ h1⟩

theorem int_run {P : Program} {op : BinOp} {k : IntKind} {m n : Int} {K : Value → Prop} (hop : op ≠ .shl ∧ op ≠ .shr) (h : vcInt op k m n K) :
    ∃ v, K v ∧ (∀ L lam, SVRel L lam v v) ∧ ∀ (t : TypeId) (w : World), (binOp op t (.int k m) (.int k n)).run P w = .ok v w := by
  obtain ⟨h1, h2⟩ := hop
  cases op <;> simp only [vcInt] at h <;> first | exact absurd rfl h1 | exact absurd rfl h2 | skip
  case quo => exact ⟨_, h.2, fun _ _ => .of (.int _ _), fun t w => by simp [binOp, Op.intDiv, h.1]⟩
  case rem => exact ⟨_, h.2, fun _ _ => .of (.int _ _), fun t w => by simp [binOp, Op.intDiv, h.1]⟩
  all_goals first
    | exact ⟨_, h, fun _ _ => .of (.int _ _), fun t w => by simp [binOp, Op.intArith, Op.intBits, ibits]⟩
    | exact ⟨_, h, fun _ _ => .of (.bool _), fun t w => by simp [binOp, Op.intCmp]; try rfl⟩

theorem str_run {P : Program} {op : BinOp} {m n : ByteArray} {K : Value → Prop} (h : vcStr op m n K) :
    ∃ v, K v ∧ (∀ L lam, SVRel L lam v v) ∧ ∀ (t : TypeId) (w : World), (binOp op t (.string m) (.string n)).run P w = .ok v w := by
  cases op <;> simp only [vcStr] at h
  case add =>
    refine ⟨_, h.2, fun _ _ => .of (.string _), fun t w => ?_⟩
    have h1 := h.1
    have : ¬ (((m.size + n.size : Nat) : Int) > IntKind.i64.max) := by
      have e : IntKind.i64.max = 9223372036854775807 := by decide
      rw [e]; omega
    simp only [binOp, Op.stringOp, if_neg this, Sem.run_pure]
  all_goals exact ⟨_, h, fun _ _ => .of (.bool _), fun t w => by simp only [binOp, Op.stringOp, toList_beq, Sem.run_pure]⟩

theorem bin_sound {P : Program} {o : Oper} {st : St} {op : BinOp} {t yt : TypeId} {x y : Operand} (ho : o.op = .binOp op t x y yt) {K : Value → Prop}
    (h : vcBin P op t x y (ev st.t x) (ev st.t y) K) : ∃ v, K v ∧ PSem P o st.t v := by
  unfold vcBin at h
  split at h
  · rename_i k m k' n hx hy
    split at h
    · refine ⟨_, h.2, .pure fun L lam a kn => ⟨_, .inr (.of (.int _ _)), fun w => exec_bin ho (guard_plain (by rw [kn.int hx]; simp) (by rw [kn.int hx]; simp)) ?_⟩⟩
      rw [kn.int hx, kn.int hy]; simp [binOp, Op.shift, show ¬ n < 0 from by omega]
    · refine ⟨_, h.2, .pure fun L lam a kn => ⟨_, .inr (.of (.int _ _)), fun w => exec_bin ho (guard_plain (by rw [kn.int hx]; simp) (by rw [kn.int hx]; simp)) ?_⟩⟩
      rw [kn.int hx, kn.int hy]; simp [binOp, Op.shift, show ¬ n < 0 from by omega]
    · rename_i h1 h2
      obtain ⟨e, h'⟩ := bs_false h
      have e' := of_decide_eq_true e
      subst e'
      obtain ⟨v, hk, hv, hr⟩ := int_run (P := P) (K := K) ⟨h1, h2⟩ h'
      exact ⟨v, hk, .pure fun L lam a kn => ⟨v, .inr (hv L lam), fun w => exec_bin ho (guard_plain (by rw [kn.int hx]; simp) (by rw [kn.int hx]; simp)) (by rw [kn.int hx, kn.int hy]; exact hr t w)⟩⟩
  · rename_i m n hx hy
    obtain ⟨v, hk, hv, hr⟩ := str_run (P := P) h
    exact ⟨v, hk, .pure fun L lam a kn => ⟨v, .inr (hv L lam), fun w => exec_bin ho (guard_plain (by rw [kn.string hx]; simp) (by rw [kn.string hx]; simp)) (by rw [kn.string hx, kn.string hy]; exact hr t w)⟩⟩
  · rename_i m n hx hy
    split at h
    · rename_i hu
      split at h
      · exact ⟨_, h, .pure fun L lam a kn => ⟨_, .inr (.of (.bool _)), fun w => exec_bin ho (guard_plain (by rw [kn.bool hx]; simp) (by rw [kn.bool hx]; simp)) (by rw [kn.bool hx, kn.bool hy]; simp [binOp, eq_bool hu])⟩⟩
      · exact ⟨_, h, .pure fun L lam a kn => ⟨_, .inr (.of (.bool _)), fun w => exec_bin ho (guard_plain (by rw [kn.bool hx]; simp) (by rw [kn.bool hx]; simp)) (by rw [kn.bool hx, kn.bool hy]; simp [binOp, eq_bool hu])⟩⟩
      · exact h.elim
    · exact h.elim
  · rename_i m i j n1 n2 hx hy
    split at h
    · rename_i e hu
      have key : ∀ (L : Lay) (lam : List Nat) (a : Act), Known L lam st.t a.tmps → ∃ M i' j' c d, a.eval x = .slice M i' j' ∧ a.eval y = .slice none c d ∧ m.isNone = M.isNone := by
        intro L lam a kn
        have r1 : VRel L _ _ := kn.of hx (by simp [undef])
        have r2 : VRel L _ _ := kn.of hy (by simp [undef])
        generalize a.eval x = X at r1
        generalize a.eval y = Y at r2
        cases r2
        cases r1
        · exact ⟨_, _, _, _, _, rfl, rfl, rfl⟩
        · exact ⟨_, _, _, _, _, rfl, rfl, rfl⟩
      split at h
      · refine ⟨_, h, .pure fun L lam a kn => ⟨_, .inr (.of (.bool _)), fun w => ?_⟩⟩
        obtain ⟨M, i', j', c, d, e1, e2, e3⟩ := key L lam a kn
        refine exec_bin ho (guard_plain (by rw [e1]; simp) (by rw [e1]; simp)) ?_
        rw [e1, e2, e3]; simp [binOp, eq_slice hu]
      · refine ⟨_, h, .pure fun L lam a kn => ⟨_, .inr (.of (.bool _)), fun w => ?_⟩⟩
        obtain ⟨M, i', j', c, d, e1, e2, e3⟩ := key L lam a kn
        refine exec_bin ho (guard_plain (by rw [e1]; simp) (by rw [e1]; simp)) ?_
        rw [e1, e2, e3]; simp [binOp, eq_slice hu]
      · exact h.2.2.elim
    · exact h.elim
  · rename_i m hx hy
    split at h
    · rename_i e hu
      have key : ∀ (L : Lay) (lam : List Nat) (a : Act), Known L lam st.t a.tmps → ∃ M, a.eval x = .pointer M ∧ a.eval y = .pointer none ∧ m.isNone = M.isNone := by
        intro L lam a kn
        have r1 : VRel L _ _ := kn.of hx (by simp [undef])
        have r2 : VRel L _ _ := kn.of hy (by simp [undef])
        generalize a.eval x = X at r1
        generalize a.eval y = Y at r2
        cases r2
        cases r1
        · exact ⟨_, rfl, rfl, rfl⟩
        · exact ⟨_, rfl, rfl, rfl⟩
      split at h
      · refine ⟨_, h, .pure fun L lam a kn => ⟨_, .inr (.of (.bool _)), fun w => ?_⟩⟩
        obtain ⟨M, e1, e2, e3⟩ := key L lam a kn
        refine exec_bin ho (guard_plain (by rw [e1]; simp) (by rw [e1]; simp)) ?_
        rw [e1, e2, e3]; simp [binOp, eq_ptr hu]
      · refine ⟨_, h, .pure fun L lam a kn => ⟨_, .inr (.of (.bool _)), fun w => ?_⟩⟩
        obtain ⟨M, e1, e2, e3⟩ := key L lam a kn
        refine exec_bin ho (guard_plain (by rw [e1]; simp) (by rw [e1]; simp)) ?_
        rw [e1, e2, e3]; simp [binOp, eq_ptr hu]
      · exact h.elim
    · exact h.elim
  · rename_i ty v hx hy
    split at h
    · rename_i e hu
      have key : ∀ (L : Lay) (lam : List Nat) (a : Act), Known L lam st.t a.tmps → ∃ V, a.eval x = .iface ty V ∧ a.eval y = .nilIface := by
        intro L lam a kn
        have r1 : VRel L _ _ := kn.of hx (by simp [undef])
        have r2 : VRel L _ _ := kn.of hy (by simp [undef])
        generalize a.eval x = X at r1
        generalize a.eval y = Y at r2
        cases r2
        cases r1
        exact ⟨_, rfl, rfl⟩
      split at h
      · refine ⟨_, h, .pure fun L lam a kn => ⟨_, .inr (.of (.bool _)), fun w => ?_⟩⟩
        obtain ⟨V, e1, e2⟩ := key L lam a kn
        refine exec_bin ho (guard_plain (by rw [e1]; simp) (by rw [e1]; simp)) ?_
        rw [e1, e2]; simp [binOp, eq_if hu]
      · refine ⟨_, h, .pure fun L lam a kn => ⟨_, .inr (.of (.bool _)), fun w => ?_⟩⟩
        obtain ⟨V, e1, e2⟩ := key L lam a kn
        refine exec_bin ho (guard_plain (by rw [e1]; simp) (by rw [e1]; simp)) ?_
        rw [e1, e2]; simp [binOp, eq_if hu]
      · exact h.elim
    · exact h.elim
  · rename_i hx hy
    split at h
    · rename_i e hu
      obtain ⟨hc, h⟩ := bs_false h
      have key : ∀ (L : Lay) (lam : List Nat) (a : Act), Known L lam st.t a.tmps → a.eval x = .nilIface ∧ a.eval y = .nilIface := by
        intro L lam a kn
        have r1 : VRel L _ _ := kn.of hx (by simp [undef])
        have r2 : VRel L _ _ := kn.of hy (by simp [undef])
        generalize a.eval x = X at r1
        generalize a.eval y = Y at r2
        cases r2
        cases r1
        exact ⟨rfl, rfl⟩
      have gd : ∀ (op : BinOp) (w : World), (eqGuard op t x y .nilIface .nilIface).run P w = .ok () w := by
        intro op w
        unfold eqGuard
        cases op <;> first | rfl | (cases x <;> cases y <;> first | rfl | cases hc)
      split at h
      · refine ⟨_, h, .pure fun L lam a kn => ⟨_, .inr (.of (.bool _)), fun w => ?_⟩⟩
        obtain ⟨e1, e2⟩ := key L lam a kn
        refine exec_bin ho (by rw [e1, e2]; exact gd _ w) ?_
        rw [e1, e2]; simp [binOp, eq_nn hu]
      · refine ⟨_, h, .pure fun L lam a kn => ⟨_, .inr (.of (.bool _)), fun w => ?_⟩⟩
        obtain ⟨e1, e2⟩ := key L lam a kn
        refine exec_bin ho (by rw [e1, e2]; exact gd _ w) ?_
        rw [e1, e2]; simp [binOp, eq_nn hu]
      · exact h.elim
    · exact h.elim
  · rename_i m n hx hy
    obtain ⟨hc, h⟩ := bs_false h
    simp only [Bool.and_eq_true] at hc
    obtain ⟨hfl, hok⟩ := hc
    simp only [flatStruct, Bool.and_eq_true, Bool.not_eq_true'] at hfl
    obtain ⟨⟨hu, hp⟩, hg⟩ := hfl
    cases hd : P.underlying t with
    | none => rw [hd] at hu; cases hu
    | some dd =>
    rw [hd] at hu
    cases dd <;> simp only [Bool.false_eq_true] at hu
    rename_i fs
    have key : ∀ (L : Lay) (lam : List Nat) (a : Act), Known L lam st.t a.tmps → ∃ M N, a.eval x = .agg M ∧ a.eval y = .agg N ∧ (∀ (j : Nat) (v : Value), m.toList[j]? = some v → M[j]? = some v) ∧ (∀ (j : Nat) (v : Value), n.toList[j]? = some v → N[j]? = some v) := by
      intro L lam a kn
      obtain ⟨M, e1, s1, r1⟩ := (kn.of hx (by simp [undef])).agg
      obtain ⟨N, e2, s2, r2⟩ := (kn.of hy (by simp [undef])).agg
      have := leaf_both (L := L) hok M N
        (fun j v hv => by
          rw [Array.getElem?_toList] at hv
          have hlt : j < M.size := by have := (Array.getElem?_eq_some_iff.1 hv).1; omega
          exact ⟨M[j], Array.getElem?_eq_getElem hlt, r1 j v _ hv (Array.getElem?_eq_getElem hlt)⟩)
        (fun j v hv => by
          rw [Array.getElem?_toList] at hv
          have hlt : j < N.size := by have := (Array.getElem?_eq_some_iff.1 hv).1; omega
          exact ⟨N[j], Array.getElem?_eq_getElem hlt, r2 j v _ hv (Array.getElem?_eq_getElem hlt)⟩)
      exact ⟨M, N, e1, e2, this.1, this.2⟩
    have gd : ∀ (op : BinOp) (M N : Array Value) (w : World), (eqGuard op t x y (.agg M) (.agg N)).run P w = .ok () w := by
      intro op M N w
      unfold eqGuard
      cases op <;> first | rfl | simp [hg]
    have run : ∀ (M N : Array Value) (w : World), (∀ (j : Nat) (v : Value), m.toList[j]? = some v → M[j]? = some v) → (∀ (j : Nat) (v : Value), n.toList[j]? = some v → N[j]? = some v) → (Op.equal t (.agg M) (.agg N)).run P w = .ok (leafEq m.toList n.toList) w := by
      intro M N w h1 h2
      have hfs : P.fieldsOf t = fs := by simp [Program.fieldsOf, hd]
      unfold Op.equal Op.maxDepth
      rw [run_equalIn_struct w 9999 t M N (by rw [hfs]; exact hd) hp, hfs]
      exact eqf_flat 9998 w fs.toList m.toList n.toList 0 hu hok (fun j v hv => by rw [Nat.zero_add]; exact h1 j v hv) (fun j v hv => by rw [Nat.zero_add]; exact h2 j v hv)
    split at h
    · refine ⟨_, h, .pure fun L lam a kn => ⟨_, .inr (.of (.bool _)), fun w => ?_⟩⟩
      obtain ⟨M, N, e1, e2, h1, h2⟩ := key L lam a kn
      refine exec_bin ho (by rw [e1, e2]; exact gd _ _ _ w) ?_
      rw [e1, e2]; simp [binOp, run M N w h1 h2]
    · refine ⟨_, h, .pure fun L lam a kn => ⟨_, .inr (.of (.bool _)), fun w => ?_⟩⟩
      obtain ⟨M, N, e1, e2, h1, h2⟩ := key L lam a kn
      refine exec_bin ho (by rw [e1, e2]; exact gd _ _ _ w) ?_
      rw [e1, e2]; simp [binOp, run M N w h1 h2]
    · exact h.elim
  · exact h.elim
end Go.Abs
