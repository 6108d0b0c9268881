/- F5, F6, A30, A31, J1, H1, H2, S1. -/
import Derived.Test.YtanienlcebkijaaV16F4
import Derived.Carry
section
namespace Go.Dat
open Go.Abs
def TopAt (ts : List topicSh.T) (i : Nat) : Prop := ∃ (n : ByteArray) (b : Int) (hs : List Sh.str.T) (gs : List groupSh.T), ts[i]? = some (n, b, hs, gs) ∧ TopicOk n b hs gs ∧ ∀ j, i = j + 1 → ∃ (m : ByteArray) (x : Int × List Sh.str.T × List groupSh.T), ts[j]? = some (m, x) ∧ Op.bytesLess m.toList n.toList = true
def RepAt (rs : List replySh.T) (i : Nat) : Prop := ∃ (c n : Int) (t : ByteArray), rs[i]? = some (c, n, t) ∧ (1 ≤ c ∧ c ≤ 9) ∧ (1 ≤ n ∧ n ≤ 1000000000) ∧ t.size ≤ 900 ∧ ∀ j, i = j + 1 → ∃ (d : Int) (x : Int × ByteArray), rs[j]? = some (d, x) ∧ d < c
def BrokerOk (ts : List topicSh.T) (rs : List replySh.T) : Prop := ts.length ≤ 4 ∧ rs.length ≤ 9 ∧ (∀ i, i < ts.length → TopAt ts i) ∧ ∀ i, i < rs.length → RepAt rs i
theorem TopAt.mk0 {ts : List topicSh.T} {n : ByteArray} {b : Int} {hs : List Sh.str.T} {gs : List groupSh.T} {i : Nat} (e : ts[i]? = some (n, b, hs, gs)) (h1 : TopicOk n b hs gs) (hi0 : i = 0) : TopAt ts i := ⟨n, b, hs, gs, e, h1, fun j hj => by omega⟩
theorem TopAt.mk1 {ts : List topicSh.T} {n m : ByteArray} {b : Int} {hs : List Sh.str.T} {gs : List groupSh.T} {i : Nat} {x : Int × List Sh.str.T × List groupSh.T} (e : ts[i]? = some (n, b, hs, gs)) (h1 : TopicOk n b hs gs) (e2 : ts[i - 1]? = some (m, x)) (h3 : Op.bytesLess m.toList n.toList = true) : TopAt ts i := ⟨n, b, hs, gs, e, h1, fun j hj => ⟨m, x, by rw [← e2]; congr 1; omega, h3⟩⟩
theorem TopAt.out {ts : List topicSh.T} {n : ByteArray} {b : Int} {hs : List Sh.str.T} {gs : List groupSh.T} {i : Nat} (H : TopAt ts i) (e : ts[i]? = some (n, b, hs, gs)) : TopicOk n b hs gs ∧ ∀ m x, 0 < i → ts[i - 1]? = some (m, x) → Op.bytesLess m.toList n.toList = true := by
  obtain ⟨n', b', hs', gs', e', h1, h3⟩ := H
  rw [e] at e'
  cases e'
  refine ⟨h1, fun m l hp e2 => ?_⟩
  obtain ⟨m', l', e3, h4⟩ := h3 (i - 1) (by omega)
  rw [e2] at e3
  cases e3
  exact h4
theorem RepAt.mk0 {rs : List replySh.T} {c n : Int} {t : ByteArray} {i : Nat} (e : rs[i]? = some (c, n, t)) (h1 : 1 ≤ c ∧ c ≤ 9) (h2 : 1 ≤ n ∧ n ≤ 1000000000) (h3 : t.size ≤ 900) (hi0 : i = 0) : RepAt rs i := ⟨c, n, t, e, h1, h2, h3, fun j hj => by omega⟩
theorem RepAt.mk1 {rs : List replySh.T} {c n d : Int} {t : ByteArray} {i : Nat} {x : Int × ByteArray} (e : rs[i]? = some (c, n, t)) (h1 : 1 ≤ c ∧ c ≤ 9) (h2 : 1 ≤ n ∧ n ≤ 1000000000) (h3 : t.size ≤ 900) (e2 : rs[i - 1]? = some (d, x)) (h4 : d < c) : RepAt rs i := ⟨c, n, t, e, h1, h2, h3, fun j hj => ⟨d, x, by rw [← e2]; congr 1; omega, h4⟩⟩
theorem RepAt.out {rs : List replySh.T} {c n : Int} {t : ByteArray} {i : Nat} (H : RepAt rs i) (e : rs[i]? = some (c, n, t)) : (1 ≤ c ∧ c ≤ 9) ∧ (1 ≤ n ∧ n ≤ 1000000000) ∧ t.size ≤ 900 ∧ ∀ (d : Int) (x : Int × ByteArray), 0 < i → rs[i - 1]? = some (d, x) → d < c := by
  obtain ⟨c', n', t', e', h1, h2, h3, h5⟩ := H
  rw [e] at e'
  cases e'
  refine ⟨h1, h2, h3, fun d x hp e2 => ?_⟩
  obtain ⟨d', x', e3, h4⟩ := h5 (i - 1) (by omega)
  rw [e2] at e3
  cases e3
  exact h4
end Go.Dat
namespace Go.Proofs.Ytanienlcebkijaa
open Go.Abs Go.Dat
set_option maxRecDepth 100000
set_option maxHeartbeats 4000000
end Go.Proofs.Ytanienlcebkijaa
end
section
namespace Go.Dat
open Go.Abs
end Go.Dat
namespace Go.Proofs.Ytanienlcebkijaa
open Go.Abs Go.Dat
set_option maxRecDepth 100000
set_option maxHeartbeats 4000000
end Go.Proofs.Ytanienlcebkijaa
end
section
namespace Go.Dat
open Go.Abs
theorem World.shape_lt {w : World} {b : Nat} {x : TypeId × Nat} (h : w.shape? b = some x) : b < w.heap.size := by
  rcases Nat.lt_or_ge b w.heap.size with hl | hl
  · exact hl
  · unfold World.shape? at h
    rw [Array.getElem?_eq_none hl] at h
    simp at h
theorem cell_pos {P : Program} {W : World} {base : Nat} {u : TypeId} {a : Addr} {n c : Nat} (h : Cell.okWide P W .any base u (.slice (some a) n c)) : 0 < W.heap.size := by
  have h2 : Cell.ok P W .any base u (.slice (some a) n c) := by
    unfold Cell.okWide at h
    split at h <;> first | exact h | (rename_i e; cases e)
  unfold Cell.ok at h2
  split at h2
  all_goals first
    | (rename_i e; cases e; done)
    | skip
  · rename_i e
    cases e
    obtain ⟨_, _, _, _, row, cells, hs, _⟩ := h2
    have := World.shape_lt hs
    omega
  · exact h2.elim
theorem arg_slice {H : Type} {enc : TypeId × Value → H} {P : Program} {W : World} {base m : Nat} {t e : TypeId} {s : Sh} {v : Value} {d : DataW H} {p : List MemPlace} {os : List InObj}
    (hu : P.underlying t = some (.slice e)) (hs : shapes m P t (.sl s) = true) (hv : Value.okWide P W .any base t v) (h0 : DataW.Trod enc P W 0 (fun _ => true) true t v d p) (hg : IGood W os) :
    ∃ (more : List InObj) (y : List s.T) (a : Option Addr) (n c : Nat), IGood W (os ++ more) ∧ Sl (inHeap (os ++ more)) s y (.slice a n c) ∧ VRel (inLay (os ++ more)) (.slice a n c) v ∧ (Sh.sl s).ok y := by
  unfold Value.okWide at hv
  rw [hu] at hv
  dsimp only at hv
  have hc : v.cells.toList = [v] := by
    cases v <;> first | rfl | skip
    unfold Cell.okWide at hv
    rw [hu] at hv
    simp [Cell.ok, hu] at hv
  obtain ⟨fuel, h0⟩ := h0
  rw [hc] at h0
  obtain ⟨more, y, acs, g1, r1, v1, k1⟩ := open_sh m t (.sl s) hs fuel os _ _ hg (fun a n c hm => by
    rw [List.mem_singleton] at hm
    subst hm
    exact cell_pos hv) h0
  obtain ⟨w, rfl, hw⟩ := rd_sl.1 r1
  obtain ⟨a, c, rfl⟩ := hw.isSlice
  exact ⟨more, y, a, _, c, g1, hw, v1.rel 0 _ _ rfl rfl, k1⟩
theorem arel2 {L : Lay} {a A b B : Value} (h : VRel L a A) (h' : VRel L b B) : ARel L #[a, b] #[A, B] := by
  refine ⟨rfl, fun i v V h1 h2 => ?_⟩
  match i, h1, h2 with
  | 0, h1, h2 => simp at h1 h2; subst h1; subst h2; exact h
  | 1, h1, h2 => simp at h1 h2; subst h1; subst h2; exact h'
  | i + 2, h1, h2 => simp at h1
end Go.Dat
end
section
namespace Go.Abs
end Go.Abs
end
section
namespace Go.Dat
open Go.Abs
def cat : List ByteArray → ByteArray
  | [] => ⟨#[]⟩
  | x :: xs => x ++ cat xs
theorem ba_ext {a b : ByteArray} (h : a.data.toList = b.data.toList) : a = b := by
  cases a; cases b; congr 1; exact Array.ext' h
theorem ba_append_nil (a : ByteArray) : a ++ (⟨#[]⟩ : ByteArray) = a := ba_ext (by simp)
theorem ba_nil_append (a : ByteArray) : (⟨#[]⟩ : ByteArray) ++ a = a := ba_ext (by simp)
theorem ba_assoc (a b c : ByteArray) : a ++ b ++ c = a ++ (b ++ c) := ba_ext (by simp)
theorem cat_append : ∀ (xs ys : List ByteArray), cat (xs ++ ys) = cat xs ++ cat ys
  | [], ys => (ba_nil_append _).symm
  | x :: xs, ys => by show x ++ cat (xs ++ ys) = x ++ cat xs ++ cat ys; rw [cat_append xs ys, ba_assoc]
structure BInv (h0 h : AHeap) (a : Option Addr) (n c : Nat) (b : ByteArray) : Prop where
  le : h0.Le h
  wf : h.wf
  wf0 : h0.wf
  nb : b.size = n
  at_ : (a = none ∧ n = 0 ∧ c = 0) ∨ ∃ l, a = some ⟨l, 0, some 1⟩ ∧ h0.n ≤ l ∧ h.get l = some ⟨bytesRows b, 1, true⟩ ∧ (c = 0 ∨ c = n + 1)
theorem bytesRows_len (b : ByteArray) : (bytesRows b).length = b.size := by
  unfold bytesRows
  rw [List.length_map]
  exact Array.length_toList
theorem bytesRows_app (a b : ByteArray) : bytesRows (a ++ b) = bytesRows a ++ bytesRows b := by
  unfold bytesRows; simp
theorem BInv.rows {h0 h : AHeap} {a : Option Addr} {n c : Nat} {b : ByteArray} (I : BInv h0 h a n c b) : h.rowsOf (.slice a n c) = some (bytesRows b) := by
  have hl := bytesRows_len b
  have nb := I.nb
  rcases I.at_ with ⟨rfl, rfl, rfl⟩ | ⟨l, rfl, _, hg, _⟩
  · have : bytesRows b = [] := List.eq_nil_of_length_eq_zero (by omega)
    rw [this]; rfl
  · rw [get_rowsOf hg (by omega), List.drop_zero, List.take_of_length_le (by omega)]
theorem BInv.app {h0 h : AHeap} {a : Option Addr} {n c : Nat} {b : ByteArray} (I : BInv h0 h a n c b) (d : ByteArray) :
    ∃ a' c' h', h.app (.slice a n c) (bytesRows d) 1 = some (.slice a' (n + d.size) c', h') ∧ BInv h0 h' a' (n + d.size) c' (b ++ d) := by
  have hd := bytesRows_len d
  have hb := bytesRows_len b
  have nb := I.nb
  have hr := I.rows
  have sz : (b ++ d).size = n + d.size := by rw [ByteArray.size_append]; omega
  unfold AHeap.app
  dsimp only
  cases hx : bytesRows d with
  | nil =>
    rw [hx] at hd
    have h0 : d.size = 0 := hd.symm
    have hd0 : d = ⟨#[]⟩ := ba_ext (by have : d.data.toList.length = 0 := by rw [Array.length_toList]; exact h0
                                       simpa using List.eq_nil_of_length_eq_zero this)
    subst hd0
    exact ⟨a, c, h, rfl, I.le, I.wf, I.wf0, by rw [ba_append_nil]; exact nb, by rw [ba_append_nil]; exact I.at_⟩
  | cons x xs =>
    rw [hx] at hd
    rcases I.at_ with ⟨rfl, rfl, rfl⟩ | ⟨l, rfl, hl, hg, hc⟩
    · have e0 : bytesRows b = [] := List.eq_nil_of_length_eq_zero (by omega)
      dsimp only
      refine ⟨_, _, _, by rw [hd, Nat.zero_add], I.le.trans (.push I.wf _), I.wf.push _, I.wf0, sz, .inr ⟨h.n, rfl, I.le.n, ?_, .inl rfl⟩⟩
      rw [AHeap.get_push_eq, bytesRows_app, e0, hx]; rfl
    · dsimp only
      rw [hr]
      dsimp only
      rw [beq_self_eq_true, cond_true]
      cases hcc : (c != 0 && decide (c ≤ n + (x :: xs).length)) with
      | true =>
        rw [cond_true]
        refine ⟨_, _, _, by rw [hd], I.le.trans (.push I.wf _), I.wf.push _, I.wf0, sz, .inr ⟨h.n, rfl, I.le.n, ?_, .inl rfl⟩⟩
        rw [AHeap.get_push_eq, bytesRows_app, hx]
      | false =>
        rw [cond_false, hg]
        dsimp only
        have hno : (c != 0 && decide (0 + n + (x :: xs).length ≤ (bytesRows b).length)) = false := by
          rw [Bool.and_eq_false_iff]; right; rw [decide_eq_false_iff_not, hb]; simp only [List.length_cons]; omega
        rw [cond_true, hno, cond_false]
        have w2 : (h.put l none).wf := I.wf.put (I.wf.lt hg) _
        refine ⟨_, _, _, by rw [hd], (I.le.put (I.wf0 l hl) none).trans (.push w2 _), w2.push _, I.wf0, sz, .inr ⟨h.n, rfl, I.le.n, ?_, .inl rfl⟩⟩
        show ((h.put l none).push _).get (h.put l none).n = _
        rw [AHeap.get_push_eq, bytesRows_app, hx]
end Go.Dat
end
section
namespace Go.Dat
open Go.Abs
def foldN (n : Int) : Nat := if n < 0 then (2 * (-(n + 1)) + 1).toNat else (2 * n).toNat
def oneB (v : Nat) : ByteArray := ⟨#[UInt8.ofNat v]⟩
def vb (u : Nat) : ByteArray := if u < 128 then oneB u else oneB (u % 128 + 128) ++ vb (u / 128)
termination_by u
decreasing_by omega
theorem vb_lo {u : Nat} (h : u < 128) : vb u = oneB u := by rw [vb, if_pos h]
theorem vb_hi {u : Nat} (h : ¬ u < 128) : vb u = oneB (u % 128 + 128) ++ vb (u / 128) := by rw [vb, if_neg h]
theorem oneB_rows {v : Nat} (h : v < 256) : bytesRows (oneB v) = [[.int .u8 (v : Int)]] := by
  unfold bytesRows oneB
  simp only [List.map_cons, List.map_nil]
  congr 3
  rw [UInt8.toNat_ofNat']; omega
theorem oneB_size (v : Nat) : (oneB v).size = 1 := rfl
theorem vb_size : ∀ (k u : Nat), u < 128 ^ (k + 1) → (vb u).size ≤ k + 1
  | 0, u, h => by rw [vb_lo (by simpa using h)]; exact Nat.le_refl _
  | k + 1, u, h => by
    by_cases hu : u < 128
    · rw [vb_lo hu, oneB_size]; omega
    · rw [vb_hi hu, ByteArray.size_append, oneB_size]
      have := vb_size k (u / 128) (by rw [Nat.div_lt_iff_lt_mul (by omega), ← Nat.pow_succ]; exact h)
      omega
theorem foldN_lt {n : Int} (h : -9223372036854775808 ≤ n ∧ n ≤ 9223372036854775807) : foldN n < 18446744073709551616 := by
  unfold foldN; split <;> omega
theorem BInv.push {h0 h : AHeap} {a : Option Addr} {n c : Nat} {b : ByteArray} (I : BInv h0 h a n c b) (o : AObj) : BInv h0 (h.push o) a n c b :=
  ⟨I.le.trans (.push I.wf _), I.wf.push _, I.wf0, I.nb, I.at_.imp id fun ⟨l, e, h1, h2, h3⟩ => ⟨l, e, h1, (AHeap.Le.push I.wf o).get l _ h2, h3⟩⟩
theorem rows_okb (d : ByteArray) : ((bytesRows d).all fun row => decide (row.length = 1) && row.all fun v => match v with | .agg _ => false | .tuple _ => false | .complex _ _ _ => false | .chan _ => false | _ => true) = true := by
  unfold bytesRows
  rw [List.all_map, List.all_eq_true]
  intro x _
  rfl
theorem rowsV_one {g : AHeap} {v : Nat} : rowsV (g.push ⟨bytesRows (oneB v), 1, true⟩) (.slice (some ⟨g.n, 0, some 1⟩) 1 2) = some (bytesRows (oneB v)) := by
  unfold rowsV
  dsimp only
  rw [get_rowsOf AHeap.get_push_eq (by rw [bytesRows_len, oneB_size]; omega)]; rfl
theorem BInv.nil {h : AHeap} (hw : h.wf) : BInv h h none 0 0 ⟨#[]⟩ := ⟨.refl _, hw, hw, rfl, .inl ⟨rfl, rfl, rfl⟩⟩
theorem or128 : ∀ b : Fin 256, (BitVec.ofInt 8 (b.val : Int) ||| BitVec.ofInt 8 (128 : Int)).toNat = b.val % 128 + 128 := by decide +kernel
theorem wrap_u64 (n : Int) : IntKind.u64.wrap n = n % 18446744073709551616 := by
  have e : IntKind.u64.wrap n = if (false && decide (n % 18446744073709551616 ≥ 9223372036854775808)) = true then n % 18446744073709551616 - 18446744073709551616 else n % 18446744073709551616 := rfl
  rw [e]; simp
theorem byte_or {u : Nat} : IntKind.u8.wrap (((BitVec.ofInt 8 (IntKind.u8.wrap (u : Int)) ||| BitVec.ofInt 8 (128 : Int)).toNat : Nat) : Int) = ((u % 128 + 128 : Nat) : Int) := by
  have e : IntKind.u8.wrap (u : Int) = ((u % 256 : Nat) : Int) := by rw [wrap_u8]; omega
  have := or128 ⟨u % 256, Nat.mod_lt _ (by omega)⟩
  dsimp only at this
  rw [e, this, wrap_u8]
  omega
theorem not64 {x : Int} (h : 0 ≤ x ∧ x < 18446744073709551616) : ((BitVec.ofInt 64 18446744073709551615 ^^^ BitVec.ofInt 64 x).toNat : Int) = 18446744073709551615 - x := by
  have e1 : BitVec.ofInt 64 18446744073709551615 = BitVec.allOnes 64 := by decide
  rw [e1, BitVec.allOnes_xor, BitVec.toNat_not, BitVec.toNat_ofInt]
  have : (x % ((2 ^ 64 : Nat) : Int)).toNat = x.toNat := by
    rw [show (((2 ^ 64 : Nat) : Int)) = 18446744073709551616 by decide]; omega
  rw [this]
  omega
end Go.Dat
namespace Go.Proofs.Ytanienlcebkijaa
open Go.Abs Go.Dat
set_option maxRecDepth 100000
set_option maxHeartbeats 4000000
def pnL (u0 : Nat) (h : AHeap) : LSpec where
  ι := Nat × ByteArray × Option Addr × Nat × AHeap
  κ := Nat × ByteArray × Option Addr × Nat × AHeap
  I := fun i => i.1 < 18446744073709551616 ∧ i.2.1 ++ vb i.1 = vb u0 ∧ BInv h i.2.2.2.2 i.2.2.1 i.2.1.size i.2.2.2.1 i.2.1
  μ := fun i => i.1
  head := fun i => ⟨[(3, .int .u64 i.1), (4, .slice i.2.2.1 i.2.1.size i.2.2.2.1)], [], i.2.2.2.2⟩
  post := fun i => ⟨[(3, .int .u64 i.1), (4, .slice i.2.2.1 i.2.1.size i.2.2.2.1)], [], i.2.2.2.2⟩
  R := fun _ i => i.1 < 128 ∧ i.2.1 ++ vb i.1 = vb u0 ∧ BInv h i.2.2.2.2 i.2.2.1 i.2.1.size i.2.2.2.1 i.2.1
  ret := fun _ _ _ => False
theorem putNum_spec (h : AHeap) (hw : h.wf) (n : Int) (hn : -9223372036854775808 ≤ n ∧ n ≤ 9223372036854775807) : ∃ v h', ACall Try.prog 159 [.int .i64 n] h v h' ∧ h.Le h' ∧ h'.wf ∧ v = .string (vb (foldN n)) := by
  have hf := foldN_lt hn
  have hsz : (vb (foldN n)).size ≤ 10 := vb_size 9 _ (by omega)
  refine acall_q fun Q HQ => ?_
  refine acall_vc (fun _ => true) (fun _ => []) (fun _ => pnL (foldN n) h) mixed Try.func159 rfl rfl rfl (Nat.le_of_ble_eq_true rfl) ?_ ?_
  · refine vc_mp (by kernel_rfl : (True ∧ True ∧ (True ∧ True ∧ True) ∧ True ∧ ((∀ (i : Nat × ByteArray × Option Addr × Nat × AHeap), Prod.fst i < (18446744073709551616 : Nat) ∧ Append.append (Prod.fst (Prod.snd i)) (vb (Prod.fst i)) = vb (foldN n) ∧ BInv h (Prod.snd (Prod.snd (Prod.snd (Prod.snd i)))) (Prod.fst (Prod.snd (Prod.snd i))) (ByteArray.size (Prod.fst (Prod.snd i))) (Prod.fst (Prod.snd (Prod.snd (Prod.snd i)))) (Prod.fst (Prod.snd i)) → bs (decide ((↑(Prod.fst i) : Int) > (127 : Int))) (∃ (xs : List (List Value)), rowsV (AHeap.push (Prod.snd (Prod.snd (Prod.snd (Prod.snd i)))) (AObj.mk [[Value.int IntKind.u8 (IntKind.wrap IntKind.u8 (↑(BitVec.toNat (BitVec.ofInt (IntKind.bits IntKind.u8) (IntKind.wrap IntKind.u8 (↑(Prod.fst i) : Int)) ||| BitVec.ofInt (IntKind.bits IntKind.u8) (128 : Int))) : Int))]] (1 : Nat) true)) (Value.slice (some (Addr.mk (AHeap.n (Prod.snd (Prod.snd (Prod.snd (Prod.snd i))))) (0 : Nat) (some (1 : Nat)))) (1 : Nat) (2 : Nat)) = some xs ∧ (List.all xs fun (row : List Value) => decide (List.length row = (1 : Nat)) && List.all row fun (v : Value) => match v with | Value.agg cells => false | Value.tuple cells => false | Value.complex k re im => false | Value.chan r => false | x => true) = true ∧ (ByteArray.size (Prod.fst (Prod.snd i)) + List.length xs) * (1 : Nat) ≤ (140737488355328 : Nat) ∧ ∃ (a : Option Addr), ∃ (n_1 : Nat), ∃ (c : Nat), ∃ (h' : AHeap), AHeap.app (AHeap.push (Prod.snd (Prod.snd (Prod.snd (Prod.snd i)))) (AObj.mk [[Value.int IntKind.u8 (IntKind.wrap IntKind.u8 (↑(BitVec.toNat (BitVec.ofInt (IntKind.bits IntKind.u8) (IntKind.wrap IntKind.u8 (↑(Prod.fst i) : Int)) ||| BitVec.ofInt (IntKind.bits IntKind.u8) (128 : Int))) : Int))]] (1 : Nat) true)) (Value.slice (Prod.fst (Prod.snd (Prod.snd i))) (ByteArray.size (Prod.fst (Prod.snd i))) (Prod.fst (Prod.snd (Prod.snd (Prod.snd i))))) xs (1 : Nat) = some (Value.slice a n_1 c, h') ∧ (0 : Int) ≤ (7 : Int) ∧ ∃ (j : Nat × ByteArray × Option Addr × Nat × AHeap), Value.int IntKind.u64 (Int.fdiv (↑(Prod.fst i) : Int) ((2 : Int) ^ min (Int.toNat (7 : Int)) (IntKind.bits IntKind.u64))) = Value.int IntKind.u64 (↑(Prod.fst j) : Int) ∧ Value.slice a n_1 c = Value.slice (Prod.fst (Prod.snd (Prod.snd j))) (ByteArray.size (Prod.fst (Prod.snd j))) (Prod.fst (Prod.snd (Prod.snd (Prod.snd j)))) ∧ Prod.snd (Prod.snd (Prod.snd (Prod.snd j))) = h' ∧ (Prod.fst j < (18446744073709551616 : Nat) ∧ Append.append (Prod.fst (Prod.snd j)) (vb (Prod.fst j)) = vb (foldN n) ∧ BInv h (Prod.snd (Prod.snd (Prod.snd (Prod.snd j)))) (Prod.fst (Prod.snd (Prod.snd j))) (ByteArray.size (Prod.fst (Prod.snd j))) (Prod.fst (Prod.snd (Prod.snd (Prod.snd j)))) (Prod.fst (Prod.snd j))) ∧ Prod.fst j < Prod.fst i ∧ (∀ (k : Nat × ByteArray × Option Addr × Nat × AHeap), Prod.fst k < (128 : Nat) ∧ Append.append (Prod.fst (Prod.snd k)) (vb (Prod.fst k)) = vb (foldN n) ∧ BInv h (Prod.snd (Prod.snd (Prod.snd (Prod.snd k)))) (Prod.fst (Prod.snd (Prod.snd k))) (ByteArray.size (Prod.fst (Prod.snd k))) (Prod.fst (Prod.snd (Prod.snd (Prod.snd k)))) (Prod.fst (Prod.snd k)) → Prod.fst k < (128 : Nat) ∧ Append.append (Prod.fst (Prod.snd k)) (vb (Prod.fst k)) = vb (foldN n) ∧ BInv h (Prod.snd (Prod.snd (Prod.snd (Prod.snd k)))) (Prod.fst (Prod.snd (Prod.snd k))) (ByteArray.size (Prod.fst (Prod.snd k))) (Prod.fst (Prod.snd (Prod.snd (Prod.snd k)))) (Prod.fst (Prod.snd k))) ∧ ∀ (v : Value) (h : AHeap), False → False) (∃ (j : Nat × ByteArray × Option Addr × Nat × AHeap), Value.int IntKind.u64 (↑(Prod.fst i) : Int) = Value.int IntKind.u64 (↑(Prod.fst j) : Int) ∧ Value.slice (Prod.fst (Prod.snd (Prod.snd i))) (ByteArray.size (Prod.fst (Prod.snd i))) (Prod.fst (Prod.snd (Prod.snd (Prod.snd i)))) = Value.slice (Prod.fst (Prod.snd (Prod.snd j))) (ByteArray.size (Prod.fst (Prod.snd j))) (Prod.fst (Prod.snd (Prod.snd (Prod.snd j)))) ∧ Prod.snd (Prod.snd (Prod.snd (Prod.snd j))) = Prod.snd (Prod.snd (Prod.snd (Prod.snd i))) ∧ Prod.fst j < (128 : Nat) ∧ Append.append (Prod.fst (Prod.snd j)) (vb (Prod.fst j)) = vb (foldN n) ∧ BInv h (Prod.snd (Prod.snd (Prod.snd (Prod.snd j)))) (Prod.fst (Prod.snd (Prod.snd j))) (ByteArray.size (Prod.fst (Prod.snd j))) (Prod.fst (Prod.snd (Prod.snd (Prod.snd j)))) (Prod.fst (Prod.snd j)))) ∧ (True ∧ True ∧ True) ∧ True ∧ True) ∧ True ∧ True) = _) ?_
    simp only [true_and, and_true]
    rintro ⟨u, b, a, c, g⟩ ⟨hu, hb, I⟩
    dsimp only at *
    refine bs_d (fun hlt => ?_) (fun hge => ?_)
    · have hv : ¬ u < 128 := by omega
      have e1 : IntKind.u8.wrap (((BitVec.ofInt IntKind.u8.bits (IntKind.u8.wrap (u : Int)) ||| BitVec.ofInt IntKind.u8.bits (128 : Int)).toNat : Nat) : Int) = ((u % 128 + 128 : Nat) : Int) := byte_or
      rw [e1, ← oneB_rows (show u % 128 + 128 < 256 by omega)]
      have hb : b ++ vb u = vb (foldN n) := hb
      have bs : b.size + (vb u).size = (vb (foldN n)).size := by rw [← hb, ByteArray.size_append]
      obtain ⟨a2, c2, g2, happ, I2⟩ := (I.push ⟨bytesRows (oneB (u % 128 + 128)), 1, true⟩).app (oneB (u % 128 + 128))
      refine ⟨bytesRows (oneB (u % 128 + 128)), rowsV_one, rows_okb _, by rw [bytesRows_len, oneB_size]; omega, _, _, _, _, happ, by omega, (u / 128, b ++ oneB (u % 128 + 128), a2, c2, g2), ?_, by rw [ByteArray.size_append], rfl, ⟨by dsimp only; omega, ?_, by rw [ByteArray.size_append]; exact I2⟩, by dsimp only; omega, fun _ h => h, fun _ _ h => h⟩
      · dsimp only
        congr 1
        show (u : Int).fdiv 128 = _
        rw [Int.fdiv_eq_ediv_of_nonneg _ (by omega)]; rfl
      · show b ++ oneB (u % 128 + 128) ++ vb (u / 128) = _
        rw [ba_assoc, ← vb_hi hv]; exact hb
    · exact ⟨(u, b, a, c, g), rfl, rfl, rfl, by omega, hb, I⟩
  refine vc_mp (by kernel_rfl : ((0 : Int) ≤ (1 : Int) ∧ bs (decide (n < (0 : Int))) (∃ (i : Nat × ByteArray × Option Addr × Nat × AHeap), Value.int IntKind.u64 (IntKind.wrap IntKind.u64 (↑(BitVec.toNat (BitVec.ofInt (IntKind.bits IntKind.u64) (IntKind.max IntKind.u64) ^^^ BitVec.ofInt (IntKind.bits IntKind.u64) (IntKind.wrap IntKind.u64 (IntKind.wrap IntKind.u64 n * (2 : Int) ^ min (Int.toNat (1 : Int)) (IntKind.bits IntKind.u64))))) : Int)) = Value.int IntKind.u64 (↑(Prod.fst i) : Int) ∧ Value.slice none (0 : Nat) (0 : Nat) = Value.slice (Prod.fst (Prod.snd (Prod.snd i))) (ByteArray.size (Prod.fst (Prod.snd i))) (Prod.fst (Prod.snd (Prod.snd (Prod.snd i)))) ∧ Prod.snd (Prod.snd (Prod.snd (Prod.snd i))) = h ∧ (Prod.fst i < (18446744073709551616 : Nat) ∧ Append.append (Prod.fst (Prod.snd i)) (vb (Prod.fst i)) = vb (foldN n) ∧ BInv h (Prod.snd (Prod.snd (Prod.snd (Prod.snd i)))) (Prod.fst (Prod.snd (Prod.snd i))) (ByteArray.size (Prod.fst (Prod.snd i))) (Prod.fst (Prod.snd (Prod.snd (Prod.snd i)))) (Prod.fst (Prod.snd i))) ∧ (∀ (j : Nat × ByteArray × Option Addr × Nat × AHeap), Prod.fst j < (128 : Nat) ∧ Append.append (Prod.fst (Prod.snd j)) (vb (Prod.fst j)) = vb (foldN n) ∧ BInv h (Prod.snd (Prod.snd (Prod.snd (Prod.snd j)))) (Prod.fst (Prod.snd (Prod.snd j))) (ByteArray.size (Prod.fst (Prod.snd j))) (Prod.fst (Prod.snd (Prod.snd (Prod.snd j)))) (Prod.fst (Prod.snd j)) → ∃ (xs : List (List Value)), rowsV (AHeap.push (Prod.snd (Prod.snd (Prod.snd (Prod.snd j)))) (AObj.mk [[Value.int IntKind.u8 (IntKind.wrap IntKind.u8 (↑(Prod.fst j) : Int))]] (1 : Nat) true)) (Value.slice (some (Addr.mk (AHeap.n (Prod.snd (Prod.snd (Prod.snd (Prod.snd j))))) (0 : Nat) (some (1 : Nat)))) (1 : Nat) (2 : Nat)) = some xs ∧ (List.all xs fun (row : List Value) => decide (List.length row = (1 : Nat)) && List.all row fun (v : Value) => match v with | Value.agg cells => false | Value.tuple cells => false | Value.complex k re im => false | Value.chan r => false | x => true) = true ∧ (ByteArray.size (Prod.fst (Prod.snd j)) + List.length xs) * (1 : Nat) ≤ (140737488355328 : Nat) ∧ ∃ (a : Option Addr), ∃ (n : Nat), ∃ (c : Nat), ∃ (h' : AHeap), AHeap.app (AHeap.push (Prod.snd (Prod.snd (Prod.snd (Prod.snd j)))) (AObj.mk [[Value.int IntKind.u8 (IntKind.wrap IntKind.u8 (↑(Prod.fst j) : Int))]] (1 : Nat) true)) (Value.slice (Prod.fst (Prod.snd (Prod.snd j))) (ByteArray.size (Prod.fst (Prod.snd j))) (Prod.fst (Prod.snd (Prod.snd (Prod.snd j))))) xs (1 : Nat) = some (Value.slice a n c, h') ∧ ∃ (s : ByteArray), AHeap.rowsOf h' (Value.slice a n c) = some (bytesRows s) ∧ Q (Value.string s) h') ∧ ∀ (v : Value) (h : AHeap), False → Q v h) (∃ (i : Nat × ByteArray × Option Addr × Nat × AHeap), Value.int IntKind.u64 (IntKind.wrap IntKind.u64 (IntKind.wrap IntKind.u64 n * (2 : Int) ^ min (Int.toNat (1 : Int)) (IntKind.bits IntKind.u64))) = Value.int IntKind.u64 (↑(Prod.fst i) : Int) ∧ Value.slice none (0 : Nat) (0 : Nat) = Value.slice (Prod.fst (Prod.snd (Prod.snd i))) (ByteArray.size (Prod.fst (Prod.snd i))) (Prod.fst (Prod.snd (Prod.snd (Prod.snd i)))) ∧ Prod.snd (Prod.snd (Prod.snd (Prod.snd i))) = h ∧ (Prod.fst i < (18446744073709551616 : Nat) ∧ Append.append (Prod.fst (Prod.snd i)) (vb (Prod.fst i)) = vb (foldN n) ∧ BInv h (Prod.snd (Prod.snd (Prod.snd (Prod.snd i)))) (Prod.fst (Prod.snd (Prod.snd i))) (ByteArray.size (Prod.fst (Prod.snd i))) (Prod.fst (Prod.snd (Prod.snd (Prod.snd i)))) (Prod.fst (Prod.snd i))) ∧ (∀ (j : Nat × ByteArray × Option Addr × Nat × AHeap), Prod.fst j < (128 : Nat) ∧ Append.append (Prod.fst (Prod.snd j)) (vb (Prod.fst j)) = vb (foldN n) ∧ BInv h (Prod.snd (Prod.snd (Prod.snd (Prod.snd j)))) (Prod.fst (Prod.snd (Prod.snd j))) (ByteArray.size (Prod.fst (Prod.snd j))) (Prod.fst (Prod.snd (Prod.snd (Prod.snd j)))) (Prod.fst (Prod.snd j)) → ∃ (xs : List (List Value)), rowsV (AHeap.push (Prod.snd (Prod.snd (Prod.snd (Prod.snd j)))) (AObj.mk [[Value.int IntKind.u8 (IntKind.wrap IntKind.u8 (↑(Prod.fst j) : Int))]] (1 : Nat) true)) (Value.slice (some (Addr.mk (AHeap.n (Prod.snd (Prod.snd (Prod.snd (Prod.snd j))))) (0 : Nat) (some (1 : Nat)))) (1 : Nat) (2 : Nat)) = some xs ∧ (List.all xs fun (row : List Value) => decide (List.length row = (1 : Nat)) && List.all row fun (v : Value) => match v with | Value.agg cells => false | Value.tuple cells => false | Value.complex k re im => false | Value.chan r => false | x => true) = true ∧ (ByteArray.size (Prod.fst (Prod.snd j)) + List.length xs) * (1 : Nat) ≤ (140737488355328 : Nat) ∧ ∃ (a : Option Addr), ∃ (n : Nat), ∃ (c : Nat), ∃ (h' : AHeap), AHeap.app (AHeap.push (Prod.snd (Prod.snd (Prod.snd (Prod.snd j)))) (AObj.mk [[Value.int IntKind.u8 (IntKind.wrap IntKind.u8 (↑(Prod.fst j) : Int))]] (1 : Nat) true)) (Value.slice (Prod.fst (Prod.snd (Prod.snd j))) (ByteArray.size (Prod.fst (Prod.snd j))) (Prod.fst (Prod.snd (Prod.snd (Prod.snd j))))) xs (1 : Nat) = some (Value.slice a n c, h') ∧ ∃ (s : ByteArray), AHeap.rowsOf h' (Value.slice a n c) = some (bytesRows s) ∧ Q (Value.string s) h') ∧ ∀ (v : Value) (h : AHeap), False → Q v h)) = _) ?_
  have fin : ∀ (j : Nat × ByteArray × Option Addr × Nat × AHeap), j.1 < 128 ∧ Append.append j.2.1 (vb j.1) = vb (foldN n) ∧ BInv h j.2.2.2.2 j.2.2.1 j.2.1.size j.2.2.2.1 j.2.1 → ∃ a2 c2 g2, (j.2.2.2.2.push ⟨bytesRows (oneB j.1), 1, true⟩).app (.slice j.2.2.1 j.2.1.size j.2.2.2.1) (bytesRows (oneB j.1)) 1 = some (.slice a2 (j.2.1.size + 1) c2, g2) ∧ g2.rowsOf (.slice a2 (j.2.1.size + 1) c2) = some (bytesRows (vb (foldN n))) ∧ h.Le g2 ∧ g2.wf ∧ j.2.1.size ≤ 10 := by
    rintro ⟨u, b, a, c, g⟩ ⟨hu, hb, I⟩
    dsimp only at *
    have hb : b ++ vb u = vb (foldN n) := hb
    have bs : b.size + (vb u).size = (vb (foldN n)).size := by rw [← hb, ByteArray.size_append]
    obtain ⟨a2, c2, g2, happ, I2⟩ := (I.push ⟨bytesRows (oneB u), 1, true⟩).app (oneB u)
    rw [vb_lo hu] at hb
    rw [hb] at I2
    exact ⟨a2, c2, g2, happ, I2.rows, I2.le, I2.wf, by omega⟩
  refine ⟨by omega, bs_d (fun e => ?_) (fun e => ?_)⟩
  all_goals
    refine ⟨(foldN n, ⟨#[]⟩, none, 0, h), ?_, rfl, rfl, ⟨hf, ba_nil_append _, .nil hw⟩, ?_, fun _ _ h => h.elim⟩
  · dsimp only
    congr 1
    show IntKind.u64.wrap (((BitVec.ofInt 64 18446744073709551615 ^^^ BitVec.ofInt 64 (IntKind.u64.wrap (IntKind.u64.wrap n * 2))).toNat : Nat) : Int) = _
    rw [wrap_u64 n, wrap_u64 (n % 18446744073709551616 * 2), not64 (by omega), wrap_u64]
    unfold foldN
    rw [if_pos e]; omega
  · rintro j hj
    obtain ⟨a2, c2, g2, happ, hrows, le, wf, sz⟩ := fin j hj
    have e8 : IntKind.u8.wrap (j.1 : Int) = (j.1 : Int) := by rw [wrap_u8]; omega
    rw [e8, ← oneB_rows (show j.1 < 256 by omega)]
    refine ⟨bytesRows (oneB j.1), rowsV_one, rows_okb _, by rw [bytesRows_len, oneB_size]; omega, _, _, _, _, happ, ?_⟩
    exact ⟨_, hrows, HQ _ _ ⟨le, wf, rfl⟩⟩
  · dsimp only
    congr 1
    show IntKind.u64.wrap (IntKind.u64.wrap n * 2) = _
    rw [wrap_u64 n, wrap_u64]
    unfold foldN
    rw [if_neg e]; omega
  · rintro j hj
    obtain ⟨a2, c2, g2, happ, hrows, le, wf, sz⟩ := fin j hj
    have e8 : IntKind.u8.wrap (j.1 : Int) = (j.1 : Int) := by rw [wrap_u8]; omega
    rw [e8, ← oneB_rows (show j.1 < 256 by omega)]
    refine ⟨bytesRows (oneB j.1), rowsV_one, rows_okb _, by rw [bytesRows_len, oneB_size]; omega, _, _, _, _, happ, ?_⟩
    exact ⟨_, hrows, HQ _ _ ⟨le, wf, rfl⟩⟩
end Go.Proofs.Ytanienlcebkijaa
end
section
namespace Go.Dat
open Go.Abs
def vt (t : ByteArray) : ByteArray := vb (foldN t.size) ++ t
def vns (xs : List Sh.int.T) : ByteArray := cat (xs.map fun n => vb (foldN n))
theorem vns_take {xs : List Sh.int.T} {i : Nat} {n : Int} (h : xs[i]? = some n) : vns (xs.take (i + 1)) = vns (xs.take i) ++ vb (foldN n) := by
  obtain ⟨hi, e⟩ := List.getElem?_eq_some_iff.1 h
  unfold vns
  rw [List.take_succ_eq_append_getElem hi, List.map_append, cat_append, e]
  show _ ++ (vb (foldN n) ++ ⟨#[]⟩) = _
  rw [ba_append_nil]
theorem vns_size : ∀ (xs : List Sh.int.T), (∀ x ∈ xs, Sh.int.ok x) → (vns xs).size ≤ 10 * xs.length
  | [], _ => Nat.le_refl _
  | x :: xs, h => by
    have h1 := vns_size xs (fun y hy => h y (List.mem_cons_of_mem _ hy))
    have hf : foldN x < 18446744073709551616 := foldN_lt (h x List.mem_cons_self)
    have h2 : (vb (foldN x)).size ≤ 10 := vb_size 9 _ (by omega)
    show (vb (foldN x) ++ vns xs).size ≤ _
    rw [ByteArray.size_append, List.length_cons]; omega
end Go.Dat
namespace Go.Proofs.Ytanienlcebkijaa
open Go.Abs Go.Dat
set_option maxRecDepth 100000
set_option maxHeartbeats 4000000
theorem putText_spec (h : AHeap) (hw : h.wf) (t : ByteArray) (ht : t.size ≤ 1000000000) : ∃ v h', ACall Try.prog 158 [.string t] h v h' ∧ h.Le h' ∧ h'.wf ∧ v = .string (vt t) := by
  obtain ⟨_, g, hA, le, wf, rfl⟩ := putNum_spec h hw t.size (by omega)
  refine acall_q fun Q HQ => ?_
  refine acall_vc (fun _ => true) (fun _ => []) (fun _ => .none) mixed Try.func158 rfl rfl rfl (Nat.le_of_ble_eq_true rfl) (by refine vc_mp (by kernel_rfl : (True ∧ True ∧ True) = _) ?_; simp only [and_self]) ?_
  refine vc_mp (by kernel_rfl : (∃ (x : ByteArray), ∃ (h' : AHeap), ACall Try.prog (159 : Nat) [Value.int IntKind.i64 (↑(ByteArray.size t) : Int)] h (Value.string x) h' ∧ ByteArray.size x + ByteArray.size t ≤ (9223372036854775807 : Nat) ∧ Q (Value.string (Append.append x t)) h') = _) ?_
  have h2 : (vb (foldN t.size)).size ≤ 10 := vb_size 9 _ (by have := foldN_lt (n := t.size) (by omega); omega)
  exact ⟨_, _, hA, by omega, HQ _ _ ⟨le, wf, rfl⟩⟩
def pnsL (xs : List Sh.int.T) (a : Option Addr) (n c : Nat) (h : AHeap) : LSpec where
  ι := Nat × AHeap
  κ := AHeap
  I := fun i => i.1 ≤ n ∧ h.Le i.2 ∧ i.2.wf
  μ := fun i => n - i.1
  head := fun i => ⟨[(3, .string (vns (xs.take i.1))), (6, .slice a n c), (7, .int .i64 n), (8, .int .i64 i.1)], [], i.2⟩
  post := fun j => ⟨[(3, .string (vns xs))], [], j⟩
  R := fun _ j => h.Le j ∧ j.wf
  ret := fun _ _ _ => False
theorem putNums_spec (h : AHeap) (hw : h.wf) (a : Option Addr) (n c : Nat) (xs : List Sh.int.T) (hx : Sl h Sh.int xs (.slice a n c)) (ok : (Sh.sl Sh.int).ok xs) (hn : n ≤ 1000000) :
    ∃ v h', ACall Try.prog 157 [.slice a n c] h v h' ∧ h.Le h' ∧ h'.wf ∧ v = .string (vns xs) := by
  have en := hx.len
  refine acall_q fun Q HQ => ?_
  refine acall_vc (fun _ => true) (fun _ => []) (fun _ => pnsL xs a n c h) mixed Try.func157 rfl rfl rfl (Nat.le_of_ble_eq_true rfl) ?_ ?_
  · refine vc_mp (by kernel_rfl : (True ∧ True ∧ (True ∧ (∀ (i : Nat × AHeap), Prod.fst i ≤ n ∧ AHeap.Le h (Prod.snd i) ∧ AHeap.wf (Prod.snd i) → bs (decide ((↑(Prod.fst i) : Int) < (↑n : Int))) (∃ (l : Nat), ∃ (r : Nat), a = some (Addr.mk l r (some (1 : Nat))) ∧ (0 : Int) ≤ (↑(Prod.fst i) : Int) ∧ (↑(Prod.fst i) : Int) < (↑n : Int) ∧ ∃ (x : Int), AHeap.ld (Prod.snd i) l (r + Int.toNat (↑(Prod.fst i) : Int)) (0 : Nat) (1 : Nat) = some [Value.int IntKind.i64 x] ∧ ∃ (x_1 : ByteArray), ∃ (h' : AHeap), ACall Try.prog (159 : Nat) [Value.int IntKind.i64 x] (Prod.snd i) (Value.string x_1) h' ∧ ByteArray.size (vns (List.take (Prod.fst i) xs)) + ByteArray.size x_1 ≤ (9223372036854775807 : Nat) ∧ ∃ (j : Nat × AHeap), Value.string (Append.append (vns (List.take (Prod.fst i) xs)) x_1) = Value.string (vns (List.take (Prod.fst j) xs)) ∧ Value.slice a n c = Value.slice a n c ∧ Value.int IntKind.i64 (↑n : Int) = Value.int IntKind.i64 (↑n : Int) ∧ Value.int IntKind.i64 (IntKind.wrap IntKind.i64 ((↑(Prod.fst i) : Int) + (1 : Int))) = Value.int IntKind.i64 (↑(Prod.fst j) : Int) ∧ Prod.snd j = h' ∧ (Prod.fst j ≤ n ∧ AHeap.Le h (Prod.snd j) ∧ AHeap.wf (Prod.snd j)) ∧ n - Prod.fst j < n - Prod.fst i ∧ (∀ (k : AHeap), AHeap.Le h k ∧ AHeap.wf k → AHeap.Le h k ∧ AHeap.wf k) ∧ ∀ (v : Value) (h : AHeap), False → False) (∃ (j : AHeap), Value.string (vns (List.take (Prod.fst i) xs)) = Value.string (vns xs) ∧ j = Prod.snd i ∧ AHeap.Le h j ∧ AHeap.wf j)) ∧ True ∧ (True ∧ True) ∧ (True ∧ True) ∧ True) ∧ True ∧ True) = _) ?_
    simp only [true_and, and_true]
    rintro ⟨i, g⟩ ⟨hi, le, wf⟩
    dsimp only at *
    refine bs_d (fun hlt => ?_) (fun hge => ⟨g, by rw [List.take_of_length_le (by omega)], rfl, le, wf⟩)
    have hio : i < xs.length := by omega
    obtain ⟨m, hat⟩ : ∃ y : Int, xs[i]? = some y := ⟨_, List.getElem?_eq_getElem hio⟩
    obtain ⟨l, r, row, ha, _, hrd, hld⟩ := (hx.mono le).elem hat
    obtain rfl : row = [.int .i64 m] := hrd
    have okm : -9223372036854775808 ≤ m ∧ m ≤ 9223372036854775807 := ok.2 m (List.mem_of_getElem? hat)
    obtain ⟨_, g2, hA, le2, wf2, rfl⟩ := putNum_spec g wf m okm
    have h2 : (vb (foldN m)).size ≤ 10 := vb_size 9 _ (by have := foldN_lt okm; omega)
    have h3 := vns_size (xs.take i) (fun x hx => ok.2 x (List.mem_of_mem_take hx))
    rw [List.length_take] at h3
    refine ⟨l, r, ha, Int.natCast_nonneg _, hlt, _, hld, _, _, hA, by omega, (i + 1, g2), ?_, by rw [wrap_i64 (by omega)]; rfl, rfl, ⟨by dsimp only; omega, le.trans le2, wf2⟩, by dsimp only; omega, fun _ h => h, fun _ _ h => h⟩
    dsimp only
    rw [vns_take hat]; rfl
  refine vc_mp (by kernel_rfl : (∃ (i : Nat × AHeap), Value.string (ByteArray.mk (Array.mk [])) = Value.string (vns (List.take (Prod.fst i) xs)) ∧ Value.slice a n c = Value.slice a n c ∧ Value.int IntKind.i64 (↑n : Int) = Value.int IntKind.i64 (↑n : Int) ∧ Value.int IntKind.i64 (0 : Int) = Value.int IntKind.i64 (↑(Prod.fst i) : Int) ∧ Prod.snd i = h ∧ (Prod.fst i ≤ n ∧ AHeap.Le h (Prod.snd i) ∧ AHeap.wf (Prod.snd i)) ∧ (∀ (j : AHeap), AHeap.Le h j ∧ AHeap.wf j → Q (Value.string (vns xs)) j) ∧ ∀ (v : Value) (h : AHeap), False → Q v h) = _) ?_
  exact ⟨(0, h), rfl, rfl, rfl, rfl, rfl, ⟨Nat.zero_le _, .refl _, hw⟩, fun g hg => HQ _ _ ⟨hg.1, hg.2, rfl⟩, fun _ _ h => h.elim⟩
theorem l01Fold_spec (h : AHeap) (n : Int) (hn : -9223372036854775808 ≤ n ∧ n ≤ 9223372036854775807) : ACall Try.prog 197 [.int .i64 n] h (.int .u64 (foldN n)) h := by
  refine acall_out (acall_vc (fun _ => true) (fun _ => []) (fun _ => .none) mixed Try.func197 rfl rfl rfl (Nat.le_of_ble_eq_true rfl) (by refine vc_mp (by kernel_rfl : (True ∧ (True ∧ (True ∧ True) ∧ True) ∧ True ∧ True) = _) ?_; simp only [and_self]) ?_)
  refine vc_mp (by kernel_rfl : (bs (decide (n < (0 : Int))) (Value.int IntKind.u64 (IntKind.wrap IntKind.u64 (IntKind.wrap IntKind.u64 ((2 : Int) * IntKind.wrap IntKind.u64 (IntKind.wrap IntKind.i64 ((0 : Int) - IntKind.wrap IntKind.i64 (n + (1 : Int))))) + (1 : Int))) = Value.int IntKind.u64 (↑(foldN n) : Int) ∧ h = h) (Value.int IntKind.u64 (IntKind.wrap IntKind.u64 ((2 : Int) * IntKind.wrap IntKind.u64 n)) = Value.int IntKind.u64 (↑(foldN n) : Int) ∧ h = h)) = _) ?_
  refine bs_d (fun e => ⟨?_, rfl⟩) (fun e => ⟨?_, rfl⟩)
  · congr 1
    rw [wrap_i64 (n := n + 1) (by omega), wrap_i64 (by omega), wrap_u64, wrap_u64, wrap_u64]
    unfold foldN
    rw [if_pos e]; omega
  · congr 1
    rw [wrap_u64, wrap_u64]
    unfold foldN
    rw [if_neg e]; omega
theorem specPutNum (h : AHeap) (hw : h.wf) (n : Int) (hn : -9223372036854775808 ≤ n ∧ n ≤ 9223372036854775807) : ∃ v h', ACall Try.prog 165 [.int .i64 n] h v h' ∧ h.Le h' ∧ h'.wf ∧ v = .string (vb (foldN n)) := by
  have hf := foldN_lt hn
  have hsz : (vb (foldN n)).size ≤ 10 := vb_size 9 _ (by omega)
  refine acall_q fun Q HQ => ?_
  refine acall_vc (fun _ => true) (fun _ => []) (fun _ => pnL (foldN n) h) mixed Try.func165 rfl rfl rfl (Nat.le_of_ble_eq_true rfl) ?_ ?_
  · refine vc_mp (by kernel_rfl : (True ∧ True ∧ True ∧ ((∀ (i : Nat × ByteArray × Option Addr × Nat × AHeap), Prod.fst i < (18446744073709551616 : Nat) ∧ Append.append (Prod.fst (Prod.snd i)) (vb (Prod.fst i)) = vb (foldN n) ∧ BInv h (Prod.snd (Prod.snd (Prod.snd (Prod.snd i)))) (Prod.fst (Prod.snd (Prod.snd i))) (ByteArray.size (Prod.fst (Prod.snd i))) (Prod.fst (Prod.snd (Prod.snd (Prod.snd i)))) (Prod.fst (Prod.snd i)) → bs (decide ((↑(Prod.fst i) : Int) ≥ (128 : Int))) ((128 : Int) ≠ (0 : Int) ∧ ∃ (xs : List (List Value)), rowsV (AHeap.push (Prod.snd (Prod.snd (Prod.snd (Prod.snd i)))) (AObj.mk [[Value.int IntKind.u8 (IntKind.wrap IntKind.u8 (IntKind.wrap IntKind.u64 (Int.tmod (↑(Prod.fst i) : Int) (128 : Int) + (128 : Int))))]] (1 : Nat) true)) (Value.slice (some (Addr.mk (AHeap.n (Prod.snd (Prod.snd (Prod.snd (Prod.snd i))))) (0 : Nat) (some (1 : Nat)))) (1 : Nat) (2 : Nat)) = some xs ∧ (List.all xs fun (row : List Value) => decide (List.length row = (1 : Nat)) && List.all row fun (v : Value) => match v with | Value.agg cells => false | Value.tuple cells => false | Value.complex k re im => false | Value.chan r => false | x => true) = true ∧ (ByteArray.size (Prod.fst (Prod.snd i)) + List.length xs) * (1 : Nat) ≤ (140737488355328 : Nat) ∧ ∃ (a : Option Addr), ∃ (n_1 : Nat), ∃ (c : Nat), ∃ (h' : AHeap), AHeap.app (AHeap.push (Prod.snd (Prod.snd (Prod.snd (Prod.snd i)))) (AObj.mk [[Value.int IntKind.u8 (IntKind.wrap IntKind.u8 (IntKind.wrap IntKind.u64 (Int.tmod (↑(Prod.fst i) : Int) (128 : Int) + (128 : Int))))]] (1 : Nat) true)) (Value.slice (Prod.fst (Prod.snd (Prod.snd i))) (ByteArray.size (Prod.fst (Prod.snd i))) (Prod.fst (Prod.snd (Prod.snd (Prod.snd i))))) xs (1 : Nat) = some (Value.slice a n_1 c, h') ∧ (128 : Int) ≠ (0 : Int) ∧ ∃ (j : Nat × ByteArray × Option Addr × Nat × AHeap), Value.int IntKind.u64 (IntKind.wrap IntKind.u64 (Int.tdiv (↑(Prod.fst i) : Int) (128 : Int))) = Value.int IntKind.u64 (↑(Prod.fst j) : Int) ∧ Value.slice a n_1 c = Value.slice (Prod.fst (Prod.snd (Prod.snd j))) (ByteArray.size (Prod.fst (Prod.snd j))) (Prod.fst (Prod.snd (Prod.snd (Prod.snd j)))) ∧ Prod.snd (Prod.snd (Prod.snd (Prod.snd j))) = h' ∧ (Prod.fst j < (18446744073709551616 : Nat) ∧ Append.append (Prod.fst (Prod.snd j)) (vb (Prod.fst j)) = vb (foldN n) ∧ BInv h (Prod.snd (Prod.snd (Prod.snd (Prod.snd j)))) (Prod.fst (Prod.snd (Prod.snd j))) (ByteArray.size (Prod.fst (Prod.snd j))) (Prod.fst (Prod.snd (Prod.snd (Prod.snd j)))) (Prod.fst (Prod.snd j))) ∧ Prod.fst j < Prod.fst i ∧ (∀ (k : Nat × ByteArray × Option Addr × Nat × AHeap), Prod.fst k < (128 : Nat) ∧ Append.append (Prod.fst (Prod.snd k)) (vb (Prod.fst k)) = vb (foldN n) ∧ BInv h (Prod.snd (Prod.snd (Prod.snd (Prod.snd k)))) (Prod.fst (Prod.snd (Prod.snd k))) (ByteArray.size (Prod.fst (Prod.snd k))) (Prod.fst (Prod.snd (Prod.snd (Prod.snd k)))) (Prod.fst (Prod.snd k)) → Prod.fst k < (128 : Nat) ∧ Append.append (Prod.fst (Prod.snd k)) (vb (Prod.fst k)) = vb (foldN n) ∧ BInv h (Prod.snd (Prod.snd (Prod.snd (Prod.snd k)))) (Prod.fst (Prod.snd (Prod.snd k))) (ByteArray.size (Prod.fst (Prod.snd k))) (Prod.fst (Prod.snd (Prod.snd (Prod.snd k)))) (Prod.fst (Prod.snd k))) ∧ ∀ (v : Value) (h : AHeap), False → False) (∃ (j : Nat × ByteArray × Option Addr × Nat × AHeap), Value.int IntKind.u64 (↑(Prod.fst i) : Int) = Value.int IntKind.u64 (↑(Prod.fst j) : Int) ∧ Value.slice (Prod.fst (Prod.snd (Prod.snd i))) (ByteArray.size (Prod.fst (Prod.snd i))) (Prod.fst (Prod.snd (Prod.snd (Prod.snd i)))) = Value.slice (Prod.fst (Prod.snd (Prod.snd j))) (ByteArray.size (Prod.fst (Prod.snd j))) (Prod.fst (Prod.snd (Prod.snd (Prod.snd j)))) ∧ Prod.snd (Prod.snd (Prod.snd (Prod.snd j))) = Prod.snd (Prod.snd (Prod.snd (Prod.snd i))) ∧ Prod.fst j < (128 : Nat) ∧ Append.append (Prod.fst (Prod.snd j)) (vb (Prod.fst j)) = vb (foldN n) ∧ BInv h (Prod.snd (Prod.snd (Prod.snd (Prod.snd j)))) (Prod.fst (Prod.snd (Prod.snd j))) (ByteArray.size (Prod.fst (Prod.snd j))) (Prod.fst (Prod.snd (Prod.snd (Prod.snd j)))) (Prod.fst (Prod.snd j)))) ∧ (True ∧ True ∧ True) ∧ True ∧ True) ∧ True ∧ True) = _) ?_
    simp only [true_and, and_true]
    rintro ⟨u, b, a, c, g⟩ ⟨hu, hb, I⟩
    dsimp only at *
    refine bs_d (fun hlt => ?_) (fun hge => ?_)
    · have hv : ¬ u < 128 := by omega
      have e1 : IntKind.u8.wrap (IntKind.u64.wrap (Int.tmod (u : Int) 128 + 128)) = ((u % 128 + 128 : Nat) : Int) := by
        rw [Int.tmod_eq_emod_of_nonneg (by omega), wrap_u64, wrap_u8]; omega
      rw [e1, ← oneB_rows (show u % 128 + 128 < 256 by omega)]
      have hb : b ++ vb u = vb (foldN n) := hb
      have bs : b.size + (vb u).size = (vb (foldN n)).size := by rw [← hb, ByteArray.size_append]
      obtain ⟨a2, c2, g2, happ, I2⟩ := (I.push ⟨bytesRows (oneB (u % 128 + 128)), 1, true⟩).app (oneB (u % 128 + 128))
      refine ⟨by omega, bytesRows (oneB (u % 128 + 128)), rowsV_one, rows_okb _, by rw [bytesRows_len, oneB_size]; omega, _, _, _, _, happ, by omega, (u / 128, b ++ oneB (u % 128 + 128), a2, c2, g2), ?_, by rw [ByteArray.size_append], rfl, ⟨by dsimp only; omega, ?_, by rw [ByteArray.size_append]; exact I2⟩, by dsimp only; omega, fun _ h => h, fun _ _ h => h⟩
      · dsimp only
        congr 1
        rw [Int.tdiv_eq_ediv_of_nonneg (by omega), wrap_u64]; omega
      · show b ++ oneB (u % 128 + 128) ++ vb (u / 128) = _
        rw [ba_assoc, ← vb_hi hv]; exact hb
    · exact ⟨(u, b, a, c, g), rfl, rfl, rfl, by omega, hb, I⟩
  refine vc_mp (by kernel_rfl : (∃ (x : Int), ∃ (h' : AHeap), ACall Try.prog (197 : Nat) [Value.int IntKind.i64 n] h (Value.int IntKind.u64 x) h' ∧ ∃ (i : Nat × ByteArray × Option Addr × Nat × AHeap), Value.int IntKind.u64 x = Value.int IntKind.u64 (↑(Prod.fst i) : Int) ∧ Value.slice (some (Addr.mk (AHeap.n h') (0 : Nat) (some (1 : Nat)))) (0 : Nat) (1 : Nat) = Value.slice (Prod.fst (Prod.snd (Prod.snd i))) (ByteArray.size (Prod.fst (Prod.snd i))) (Prod.fst (Prod.snd (Prod.snd (Prod.snd i)))) ∧ Prod.snd (Prod.snd (Prod.snd (Prod.snd i))) = AHeap.push h' (AObj.mk [] (1 : Nat) true) ∧ (Prod.fst i < (18446744073709551616 : Nat) ∧ Append.append (Prod.fst (Prod.snd i)) (vb (Prod.fst i)) = vb (foldN n) ∧ BInv h (Prod.snd (Prod.snd (Prod.snd (Prod.snd i)))) (Prod.fst (Prod.snd (Prod.snd i))) (ByteArray.size (Prod.fst (Prod.snd i))) (Prod.fst (Prod.snd (Prod.snd (Prod.snd i)))) (Prod.fst (Prod.snd i))) ∧ (∀ (j : Nat × ByteArray × Option Addr × Nat × AHeap), Prod.fst j < (128 : Nat) ∧ Append.append (Prod.fst (Prod.snd j)) (vb (Prod.fst j)) = vb (foldN n) ∧ BInv h (Prod.snd (Prod.snd (Prod.snd (Prod.snd j)))) (Prod.fst (Prod.snd (Prod.snd j))) (ByteArray.size (Prod.fst (Prod.snd j))) (Prod.fst (Prod.snd (Prod.snd (Prod.snd j)))) (Prod.fst (Prod.snd j)) → ∃ (xs : List (List Value)), rowsV (AHeap.push (Prod.snd (Prod.snd (Prod.snd (Prod.snd j)))) (AObj.mk [[Value.int IntKind.u8 (IntKind.wrap IntKind.u8 (↑(Prod.fst j) : Int))]] (1 : Nat) true)) (Value.slice (some (Addr.mk (AHeap.n (Prod.snd (Prod.snd (Prod.snd (Prod.snd j))))) (0 : Nat) (some (1 : Nat)))) (1 : Nat) (2 : Nat)) = some xs ∧ (List.all xs fun (row : List Value) => decide (List.length row = (1 : Nat)) && List.all row fun (v : Value) => match v with | Value.agg cells => false | Value.tuple cells => false | Value.complex k re im => false | Value.chan r => false | x => true) = true ∧ (ByteArray.size (Prod.fst (Prod.snd j)) + List.length xs) * (1 : Nat) ≤ (140737488355328 : Nat) ∧ ∃ (a : Option Addr), ∃ (n : Nat), ∃ (c : Nat), ∃ (h' : AHeap), AHeap.app (AHeap.push (Prod.snd (Prod.snd (Prod.snd (Prod.snd j)))) (AObj.mk [[Value.int IntKind.u8 (IntKind.wrap IntKind.u8 (↑(Prod.fst j) : Int))]] (1 : Nat) true)) (Value.slice (Prod.fst (Prod.snd (Prod.snd j))) (ByteArray.size (Prod.fst (Prod.snd j))) (Prod.fst (Prod.snd (Prod.snd (Prod.snd j))))) xs (1 : Nat) = some (Value.slice a n c, h') ∧ ∃ (s : ByteArray), AHeap.rowsOf h' (Value.slice a n c) = some (bytesRows s) ∧ Q (Value.string s) h') ∧ ∀ (v : Value) (h : AHeap), False → Q v h) = _) ?_
  have I0 : BInv h (h.push ⟨[], 1, true⟩) (some ⟨h.n, 0, some 1⟩) 0 1 ⟨#[]⟩ := ⟨.push hw _, hw.push _, hw, rfl, .inr ⟨h.n, rfl, Nat.le_refl _, AHeap.get_push_eq, .inr rfl⟩⟩
  refine ⟨_, _, l01Fold_spec h n hn, (foldN n, ⟨#[]⟩, some ⟨h.n, 0, some 1⟩, 1, h.push ⟨[], 1, true⟩), rfl, rfl, rfl, ⟨hf, ba_nil_append _, I0⟩, ?_, fun _ _ h => h.elim⟩
  rintro ⟨u, b, a, c, g⟩ ⟨hu, hb, I⟩
  dsimp only at *
  have hb : b ++ vb u = vb (foldN n) := hb
  have bs : b.size + (vb u).size = (vb (foldN n)).size := by rw [← hb, ByteArray.size_append]
  have e8 : IntKind.u8.wrap (u : Int) = (u : Int) := by rw [wrap_u8]; omega
  rw [e8, ← oneB_rows (show u < 256 by omega)]
  obtain ⟨a2, c2, g2, happ, I2⟩ := (I.push ⟨bytesRows (oneB u), 1, true⟩).app (oneB u)
  rw [vb_lo hu] at hb
  rw [hb] at I2
  refine ⟨bytesRows (oneB u), rowsV_one, rows_okb _, by rw [bytesRows_len, oneB_size]; omega, _, _, _, _, happ, ?_⟩
  exact ⟨_, I2.rows, HQ _ _ ⟨I2.le, I2.wf, rfl⟩⟩
theorem specPutText (h : AHeap) (hw : h.wf) (t : ByteArray) (ht : t.size ≤ 20000) : ∃ v h', ACall Try.prog 166 [.string t] h v h' ∧ h.Le h' ∧ h'.wf ∧ v = .string (vt t) := by
  obtain ⟨_, g, hA, le, wf, rfl⟩ := specPutNum h hw t.size (by omega)
  have h2 : (vb (foldN t.size)).size ≤ 10 := vb_size 9 _ (by have := foldN_lt (n := t.size) (by omega); omega)
  refine acall_q fun Q HQ => ?_
  refine acall_vc (fun _ => true) (fun _ => []) (fun _ => .none) mixed Try.func166 rfl rfl rfl (Nat.le_of_ble_eq_true rfl) (by refine vc_mp (by kernel_rfl : (True ∧ (True ∧ (True ∧ True) ∧ True) ∧ True ∧ True) = _) ?_; simp only [and_self]) ?_
  refine vc_mp (by kernel_rfl : (bs (decide ((↑(ByteArray.size t) : Int) > (20000 : Int))) (Q (Value.string (ByteArray.mk (Array.mk []))) h) (∃ (x : ByteArray), ∃ (h' : AHeap), ACall Try.prog (165 : Nat) [Value.int IntKind.i64 (↑(ByteArray.size t) : Int)] h (Value.string x) h' ∧ ByteArray.size x + ByteArray.size t ≤ (9223372036854775807 : Nat) ∧ Q (Value.string (Append.append x t)) h')) = _) ?_
  exact bs_d (fun e => absurd e (by omega)) (fun e => ⟨_, _, hA, by omega, HQ _ _ ⟨le, wf, rfl⟩⟩)
end Go.Proofs.Ytanienlcebkijaa
end
section
namespace Go.Dat
open Go.Abs
def nb (n : Int) : ByteArray := vb (foldN n)
def grpB (g : groupSh.T) : ByteArray := cat [vt g.1, nb g.2]
def topPre (t : topicSh.T) (j : Nat) : List ByteArray := [vt t.1, nb t.2.1, nb t.2.2.1.length] ++ (t.2.2.1.take j).map vt
def topPre2 (t : topicSh.T) (j : Nat) : List ByteArray := topPre t t.2.2.1.length ++ [nb t.2.2.2.length] ++ (t.2.2.2.take j).map grpB
def topB (t : topicSh.T) : ByteArray := cat (topPre2 t t.2.2.2.length)
def repB (r : replySh.T) : ByteArray := cat [nb r.1, nb r.2.1, vt r.2.2]
def brkPre (ts : List topicSh.T) (i : Nat) : List ByteArray := [nb ts.length] ++ (ts.take i).map topB
def brkPre2 (ts : List topicSh.T) (rs : List replySh.T) (j : Nat) : List ByteArray := brkPre ts ts.length ++ [nb rs.length] ++ (rs.take j).map repB
def brkB (ts : List topicSh.T) (rs : List replySh.T) : ByteArray := cat (brkPre2 ts rs rs.length)
theorem cat_one (x : ByteArray) : cat [x] = x := ba_append_nil x
theorem cat_snoc (L : List ByteArray) (x : ByteArray) : cat L ++ x = cat (L ++ [x]) := by rw [cat_append, cat_one]
theorem cat_size_app (L M : List ByteArray) : (cat (L ++ M)).size = (cat L).size + (cat M).size := by rw [cat_append, ByteArray.size_append]
theorem cat_size_cons (x : ByteArray) (L : List ByteArray) : (cat (x :: L)).size = x.size + (cat L).size := ByteArray.size_append
theorem cat_size_nil : (cat []).size = 0 := rfl
theorem cat_map_take {α : Type} {f : α → ByteArray} {m : Nat} : ∀ {xs : List α} (_ : ∀ x ∈ xs, (f x).size ≤ m) (j : Nat), (cat ((xs.take j).map f)).size ≤ m * xs.length
  | [], _, j => by rw [List.take_nil]; exact Nat.zero_le _
  | x :: xs, h, 0 => Nat.zero_le _
  | x :: xs, h, j + 1 => by
    have h1 := h x List.mem_cons_self
    have h2 := cat_map_take (xs := xs) (fun y hy => h y (List.mem_cons_of_mem _ hy)) j
    rw [List.take_succ_cons, List.map_cons, cat_size_cons, List.length_cons, Nat.mul_succ]; omega
theorem take_map_snoc {α β : Type} {f : α → β} {xs : List α} {i : Nat} {x : α} (h : xs[i]? = some x) : (xs.take (i + 1)).map f = (xs.take i).map f ++ [f x] := by
  obtain ⟨hi, e⟩ := List.getElem?_eq_some_iff.1 h
  rw [List.take_succ_eq_append_getElem hi, List.map_append, e]; rfl
theorem nb_size {n : Int} (h : -9223372036854775808 ≤ n ∧ n ≤ 9223372036854775807) : (nb n).size ≤ 10 := vb_size 9 _ (by have := foldN_lt h; omega)
theorem vt_size' {t : ByteArray} (h : t.size ≤ 1000000000) : (vt t).size ≤ t.size + 10 := by
  have := nb_size (n := t.size) (by omega)
  unfold vt; rw [ByteArray.size_append]; unfold nb at this; omega
def InR (lo hi x : Int) : Prop := lo ≤ x ∧ x ≤ hi
theorem nb_sz {lo hi n : Int} (h : InR lo hi n) (h1 : -9223372036854775808 ≤ lo) (h2 : hi ≤ 9223372036854775807) : (nb n).size ≤ 10 := nb_size (by unfold InR at h; omega)
structure TopSz (t : topicSh.T) : Prop where
  nm : t.1.size ≤ 20
  bs : InR 0 1000000000 t.2.1
  hl : t.2.2.1.length ≤ 20
  gl : t.2.2.2.length ≤ 4
  hs : ∀ m ∈ t.2.2.1, ByteArray.size m ≤ 40
  gs : ∀ g ∈ t.2.2.2, ByteArray.size g.1 ≤ 20 ∧ InR 0 2000000000 g.2
theorem TopicOk.sz {n : ByteArray} {b : Int} {hs : List Sh.str.T} {gs : List groupSh.T} (H : TopicOk n b hs gs) : TopSz (n, b, hs, gs) := by
  obtain ⟨h1, h2, h3, h4, h5, h6, h7⟩ := H
  refine ⟨h1.2.1, h2, h3, h4, fun m hm => ?_, fun g hg => ?_⟩
  · obtain ⟨i, hi⟩ := List.mem_iff_getElem?.1 hm
    have := (h6 i (List.getElem?_eq_some_iff.1 hi).1).out hi
    exact this.2
  · obtain ⟨i, hi⟩ := List.mem_iff_getElem?.1 hg
    obtain ⟨gn, (gk : Int)⟩ := g
    have := (h7 i (List.getElem?_eq_some_iff.1 hi).1).out (n := gn) (k := gk) hi
    refine ⟨this.1.2.1, ?_⟩
    show (0 : Int) ≤ gk ∧ gk ≤ 2000000000
    have h8 : hs.length ≤ 20 := h3
    omega
theorem TopSz.grp {t : topicSh.T} (H : TopSz t) : ∀ g ∈ t.2.2.2, (grpB g).size ≤ 40 := fun g hg => by
  have h1 := H.gs g hg
  have h2 := vt_size' (t := g.1) (by omega)
  have h3 := nb_sz h1.2 (by omega) (by omega)
  unfold grpB
  simp only [cat_size_cons, cat_size_nil]; omega
theorem TopSz.pre {t : topicSh.T} (H : TopSz t) (j : Nat) : (cat (topPre t j)).size ≤ 1050 := by
  have h1 := vt_size' (t := t.1) (by have := H.nm; omega)
  have h2 := nb_sz H.bs (by omega) (by omega)
  have h3 := nb_size (n := t.2.2.1.length) (by have := H.hl; omega)
  have h4 := cat_map_take (f := vt) (m := 50) (xs := t.2.2.1) (fun x hx => by have h5 := H.hs x hx; have := vt_size' (t := x) (by omega); omega) j
  have h5 := H.hl
  have h6 := H.nm
  have : 50 * t.2.2.1.length ≤ 1000 := by omega
  unfold topPre
  rw [cat_size_app]
  simp only [cat_size_cons, cat_size_nil]
  omega
theorem TopSz.pre2 {t : topicSh.T} (H : TopSz t) (j : Nat) : (cat (topPre2 t j)).size ≤ 1300 := by
  have h1 := H.pre t.2.2.1.length
  have h3 := nb_size (n := t.2.2.2.length) (by have := H.gl; omega)
  have h4 := cat_map_take H.grp j
  have h5 := H.gl
  unfold topPre2
  rw [cat_size_app, cat_size_app]
  simp only [cat_size_cons, cat_size_nil]
  omega
structure BrkSz (ts : List topicSh.T) (rs : List replySh.T) : Prop where
  tl : ts.length ≤ 4
  rl : rs.length ≤ 9
  ts : ∀ t ∈ ts, TopSz t
  rs : ∀ r ∈ rs, InR 1 9 r.1 ∧ InR 1 1000000000 r.2.1 ∧ ByteArray.size r.2.2 ≤ 900
theorem BrokerOk.sz {ts : List topicSh.T} {rs : List replySh.T} (H : BrokerOk ts rs) : BrkSz ts rs := by
  obtain ⟨h1, h2, h3, h4⟩ := H
  refine ⟨h1, h2, fun t ht => ?_, fun r hr => ?_⟩
  · obtain ⟨i, hi⟩ := List.mem_iff_getElem?.1 ht
    exact TopicOk.sz ((h3 i (List.getElem?_eq_some_iff.1 hi).1).out (n := t.1) (b := t.2.1) (hs := t.2.2.1) (gs := t.2.2.2) hi).1
  · obtain ⟨i, hi⟩ := List.mem_iff_getElem?.1 hr
    have := (h4 i (List.getElem?_eq_some_iff.1 hi).1).out (c := r.1) (n := r.2.1) (t := r.2.2) hi
    exact ⟨this.1, this.2.1, this.2.2.1⟩
theorem BrkSz.pre {ts : List topicSh.T} {rs : List replySh.T} (H : BrkSz ts rs) (i : Nat) : (cat (brkPre ts i)).size ≤ 5300 := by
  have h1 := nb_size (n := ts.length) (by have := H.tl; omega)
  have h2 := cat_map_take (f := topB) (m := 1300) (xs := ts) (fun t ht => (H.ts t ht).pre2 _) i
  have h3 := H.tl
  unfold brkPre
  rw [cat_size_app]
  simp only [cat_size_cons, cat_size_nil]
  omega
theorem BrkSz.rep {ts : List topicSh.T} {rs : List replySh.T} (H : BrkSz ts rs) : ∀ r ∈ rs, (repB r).size ≤ 930 := fun r hr => by
  obtain ⟨h1, h2, h3⟩ := H.rs r hr
  have h4 := nb_sz h1 (by omega) (by omega)
  have h5 := nb_sz h2 (by omega) (by omega)
  have h6 := vt_size' (t := r.2.2) (by omega)
  unfold repB
  simp only [cat_size_cons, cat_size_nil]; omega
theorem BrkSz.pre2 {ts : List topicSh.T} {rs : List replySh.T} (H : BrkSz ts rs) (j : Nat) : (cat (brkPre2 ts rs j)).size ≤ 14000 := by
  have h1 := H.pre ts.length
  have h2 := nb_size (n := rs.length) (by have := H.rl; omega)
  have h3 := cat_map_take H.rep j
  have h4 := H.rl
  unfold brkPre2
  rw [cat_size_app, cat_size_app]
  simp only [cat_size_cons, cat_size_nil]
  omega
theorem app1 (A : List ByteArray) (x : ByteArray) : Append.append (cat A) x = cat (A ++ [x]) := cat_snoc A x
end Go.Dat
namespace Go.Proofs.Ytanienlcebkijaa
open Go.Abs Go.Dat
set_option maxRecDepth 100000
set_option maxHeartbeats 8000000
end Go.Proofs.Ytanienlcebkijaa
end
