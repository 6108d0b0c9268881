/- C9, F1, F2, F3, F4, F5, F6, A30, A31, J1, H1, H2, S1, R1, N0, R2. -/
import Derived.Test.YtpgfjadjhliohaaGreatV17C3
import Derived.Test.YtpgfjadjhliohaaGreatV17G1
import Derived.Carry
section
namespace Go.Dat
open Go.Abs
open Classical in
noncomputable def tr (p : Prop) : Bool := decide p
theorem tr_true {p : Prop} (h : p) : true = tr p := by unfold tr; simp [h]
theorem tr_false {p : Prop} (h : ¬ p) : false = tr p := by unfold tr; simp [h]
theorem of_tr {p : Prop} (h : tr p = true) : p := by unfold tr at h; simpa using h
theorem of_trn {p : Prop} (h : tr p = false) : ¬ p := by unfold tr at h; simpa using h
end Go.Dat
namespace Go.Proofs.YtpgfjadjhliohaaGreat
open Go.Abs Go.Dat
set_option maxRecDepth 100000
set_option maxHeartbeats 4000000
end Go.Proofs.YtpgfjadjhliohaaGreat
end
section
namespace Go.Dat
open Go.Abs
def ChOk (t : ByteArray) (i : Nat) : Prop := (97 ≤ byteAt t i ∧ byteAt t i ≤ 122) ∨ (0 < i ∧ (byteAt t i = 95 ∨ (48 ≤ byteAt t i ∧ byteAt t i ≤ 57)))
def NameOk (t : ByteArray) : Prop := 1 ≤ t.size ∧ t.size ≤ 20 ∧ ∀ i, i < t.size → ChOk t i
def MsgOk (t : ByteArray) : Prop := 1 ≤ t.size ∧ t.size ≤ 40
end Go.Dat
namespace Go.Proofs.YtpgfjadjhliohaaGreat
open Go.Abs Go.Dat
set_option maxRecDepth 100000
set_option maxHeartbeats 4000000
end Go.Proofs.YtpgfjadjhliohaaGreat
end
section
namespace Go.Dat
open Go.Abs
def HeldOk (hs : List Sh.str.T) (i : Nat) : Prop := ∃ t : ByteArray, hs[i]? = some t ∧ MsgOk t
def GrpOk (gs : List groupSh.T) (lo hi : Int) (i : Nat) : Prop := ∃ (n : ByteArray) (k : Int), gs[i]? = some (n, k) ∧ NameOk n ∧ (lo ≤ k ∧ k ≤ hi) ∧ ∀ j, i = j + 1 → ∃ (m : ByteArray) (l : Int), gs[j]? = some (m, l) ∧ Op.bytesLess m.toList n.toList = true
def TopicOk (name : ByteArray) (base : Int) (held : List Sh.str.T) (gs : List groupSh.T) : Prop :=
  NameOk name ∧ (0 ≤ base ∧ base ≤ 1000000000) ∧ held.length ≤ 20 ∧ gs.length ≤ 4 ∧ base + held.length ≤ 1000000000 ∧ (∀ i, i < held.length → HeldOk held i) ∧ ∀ i, i < gs.length → GrpOk gs base (base + held.length) i
theorem GrpOk.mk0 {gs : List groupSh.T} {lo hi k : Int} {n : ByteArray} {i : Nat} (e : gs[i]? = some (n, k)) (h1 : NameOk n) (h2 : lo ≤ k ∧ k ≤ hi) (hi0 : i = 0) : GrpOk gs lo hi i := ⟨n, k, e, h1, h2, fun j hj => by omega⟩
theorem GrpOk.mk1 {gs : List groupSh.T} {lo hi k l : Int} {n m : ByteArray} {i : Nat} (e : gs[i]? = some (n, k)) (h1 : NameOk n) (h2 : lo ≤ k ∧ k ≤ hi) (e2 : gs[i - 1]? = some (m, l)) (h3 : Op.bytesLess m.toList n.toList = true) : GrpOk gs lo hi i := ⟨n, k, e, h1, h2, fun j hj => ⟨m, l, by rw [← e2]; congr 1; omega, h3⟩⟩
theorem GrpOk.out {gs : List groupSh.T} {lo hi k : Int} {n : ByteArray} {i : Nat} (H : GrpOk gs lo hi i) (e : gs[i]? = some (n, k)) : NameOk n ∧ lo ≤ k ∧ k ≤ hi ∧ ∀ m l, 0 < i → gs[i - 1]? = some (m, l) → Op.bytesLess m.toList n.toList = true := by
  obtain ⟨n', k', e', h1, h2, h3⟩ := H
  rw [e] at e'
  cases e'
  refine ⟨h1, h2.1, h2.2, fun m l hp e2 => ?_⟩
  obtain ⟨m', l', e3, h4⟩ := h3 (i - 1) (by omega)
  rw [e2] at e3
  cases e3
  exact h4
theorem HeldOk.out {hs : List Sh.str.T} {t : ByteArray} {i : Nat} (H : HeldOk hs i) (e : hs[i]? = some t) : MsgOk t := by
  obtain ⟨t', e', h1⟩ := H
  rw [e] at e'
  cases e'
  exact h1
end Go.Dat
namespace Go.Proofs.YtpgfjadjhliohaaGreat
open Go.Abs Go.Dat
set_option maxRecDepth 100000
set_option maxHeartbeats 4000000
end Go.Proofs.YtpgfjadjhliohaaGreat
end
section
namespace Go.Proofs.YtpgfjadjhliohaaGreat
open Go.Abs Go.Dat
set_option maxRecDepth 100000
set_option maxHeartbeats 4000000
end Go.Proofs.YtpgfjadjhliohaaGreat
end
section
namespace Go.Proofs.YtpgfjadjhliohaaGreat
open Go.Abs Go.Dat
set_option maxRecDepth 100000
set_option maxHeartbeats 4000000
end Go.Proofs.YtpgfjadjhliohaaGreat
end
section
namespace Go.Dat
open Go.Abs
def TopAt (ts : List topicSh.T) (i : Nat) : Prop := ∃ (n : ByteArray) (b : Int) (hs : List Sh.str.T) (gs : List groupSh.T), ts[i]? = some (n, b, hs, gs) ∧ TopicOk n b hs gs ∧ ∀ j, i = j + 1 → ∃ (m : ByteArray) (x : Int × List Sh.str.T × List groupSh.T), ts[j]? = some (m, x) ∧ Op.bytesLess m.toList n.toList = true
def RepAt (rs : List replySh.T) (i : Nat) : Prop := ∃ (c n : Int) (t : ByteArray), rs[i]? = some (c, n, t) ∧ (1 ≤ c ∧ c ≤ 9) ∧ (1 ≤ n ∧ n ≤ 1000000000) ∧ t.size ≤ 900 ∧ ∀ j, i = j + 1 → ∃ (d : Int) (x : Int × ByteArray), rs[j]? = some (d, x) ∧ d < c
def BrokerOk (ts : List topicSh.T) (rs : List replySh.T) : Prop := ts.length ≤ 4 ∧ rs.length ≤ 9 ∧ (∀ i, i < ts.length → TopAt ts i) ∧ ∀ i, i < rs.length → RepAt rs i
theorem TopAt.mk0 {ts : List topicSh.T} {n : ByteArray} {b : Int} {hs : List Sh.str.T} {gs : List groupSh.T} {i : Nat} (e : ts[i]? = some (n, b, hs, gs)) (h1 : TopicOk n b hs gs) (hi0 : i = 0) : TopAt ts i := ⟨n, b, hs, gs, e, h1, fun j hj => by omega⟩
theorem TopAt.mk1 {ts : List topicSh.T} {n m : ByteArray} {b : Int} {hs : List Sh.str.T} {gs : List groupSh.T} {i : Nat} {x : Int × List Sh.str.T × List groupSh.T} (e : ts[i]? = some (n, b, hs, gs)) (h1 : TopicOk n b hs gs) (e2 : ts[i - 1]? = some (m, x)) (h3 : Op.bytesLess m.toList n.toList = true) : TopAt ts i := ⟨n, b, hs, gs, e, h1, fun j hj => ⟨m, x, by rw [← e2]; congr 1; omega, h3⟩⟩
theorem TopAt.out {ts : List topicSh.T} {n : ByteArray} {b : Int} {hs : List Sh.str.T} {gs : List groupSh.T} {i : Nat} (H : TopAt ts i) (e : ts[i]? = some (n, b, hs, gs)) : TopicOk n b hs gs ∧ ∀ m x, 0 < i → ts[i - 1]? = some (m, x) → Op.bytesLess m.toList n.toList = true := by
  obtain ⟨n', b', hs', gs', e', h1, h3⟩ := H
  rw [e] at e'
  cases e'
  refine ⟨h1, fun m l hp e2 => ?_⟩
  obtain ⟨m', l', e3, h4⟩ := h3 (i - 1) (by omega)
  rw [e2] at e3
  cases e3
  exact h4
theorem RepAt.mk0 {rs : List replySh.T} {c n : Int} {t : ByteArray} {i : Nat} (e : rs[i]? = some (c, n, t)) (h1 : 1 ≤ c ∧ c ≤ 9) (h2 : 1 ≤ n ∧ n ≤ 1000000000) (h3 : t.size ≤ 900) (hi0 : i = 0) : RepAt rs i := ⟨c, n, t, e, h1, h2, h3, fun j hj => by omega⟩
theorem RepAt.mk1 {rs : List replySh.T} {c n d : Int} {t : ByteArray} {i : Nat} {x : Int × ByteArray} (e : rs[i]? = some (c, n, t)) (h1 : 1 ≤ c ∧ c ≤ 9) (h2 : 1 ≤ n ∧ n ≤ 1000000000) (h3 : t.size ≤ 900) (e2 : rs[i - 1]? = some (d, x)) (h4 : d < c) : RepAt rs i := ⟨c, n, t, e, h1, h2, h3, fun j hj => ⟨d, x, by rw [← e2]; congr 1; omega, h4⟩⟩
theorem RepAt.out {rs : List replySh.T} {c n : Int} {t : ByteArray} {i : Nat} (H : RepAt rs i) (e : rs[i]? = some (c, n, t)) : (1 ≤ c ∧ c ≤ 9) ∧ (1 ≤ n ∧ n ≤ 1000000000) ∧ t.size ≤ 900 ∧ ∀ (d : Int) (x : Int × ByteArray), 0 < i → rs[i - 1]? = some (d, x) → d < c := by
  obtain ⟨c', n', t', e', h1, h2, h3, h5⟩ := H
  rw [e] at e'
  cases e'
  refine ⟨h1, h2, h3, fun d x hp e2 => ?_⟩
  obtain ⟨d', x', e3, h4⟩ := h5 (i - 1) (by omega)
  rw [e2] at e3
  cases e3
  exact h4
end Go.Dat
namespace Go.Proofs.YtpgfjadjhliohaaGreat
open Go.Abs Go.Dat
set_option maxRecDepth 100000
set_option maxHeartbeats 4000000
end Go.Proofs.YtpgfjadjhliohaaGreat
end
section
namespace Go.Dat
open Go.Abs
end Go.Dat
namespace Go.Proofs.YtpgfjadjhliohaaGreat
open Go.Abs Go.Dat
set_option maxRecDepth 100000
set_option maxHeartbeats 4000000
end Go.Proofs.YtpgfjadjhliohaaGreat
end
section
namespace Go.Dat
open Go.Abs
theorem World.shape_lt {w : World} {b : Nat} {x : TypeId × Nat} (h : w.shape? b = some x) : b < w.heap.size := by
  rcases Nat.lt_or_ge b w.heap.size with hl | hl
  · exact hl
  · unfold World.shape? at h
    rw [Array.getElem?_eq_none hl] at h
    simp at h
theorem cell_pos {P : Program} {W : World} {base : Nat} {u : TypeId} {a : Addr} {n c : Nat} (h : Cell.okWide P W .any base u (.slice (some a) n c)) : 0 < W.heap.size := by
  have h2 : Cell.ok P W .any base u (.slice (some a) n c) := by
    unfold Cell.okWide at h
    split at h <;> first | exact h | (rename_i e; cases e)
  unfold Cell.ok at h2
  split at h2
  all_goals first
    | (rename_i e; cases e; done)
    | skip
  · rename_i e
    cases e
    obtain ⟨_, _, _, _, row, cells, hs, _⟩ := h2
    have := World.shape_lt hs
    omega
  · exact h2.elim
theorem arg_struct {H : Type} {enc : TypeId × Value → H} {P : Program} {W : World} {base m : Nat} {t : TypeId} {fs : Array Field} {s : Sh} {v : Value} {d : DataW H} {p : List MemPlace} {os : List InObj}
    (hu : P.underlying t = some (.struct fs)) (hs : shapes m P t s = true) (hv : Value.okWide P W .any base t v) (h0 : DataW.Trod enc P W 0 (fun _ => true) true t v d p) (hg : IGood W os) :
    ∃ (more : List InObj) (y : s.T) (acs : List Value), IGood W (os ++ more) ∧ s.rd (inHeap (os ++ more)) y acs ∧ VRel (inLay (os ++ more)) (.agg acs.toArray) v ∧ s.ok y := by
  unfold Value.okWide at hv
  rw [hu] at hv
  obtain ⟨cs, rfl, hlen, ts, hts, _, hcell⟩ := hv
  obtain ⟨fuel, h0⟩ := h0
  obtain ⟨more, y, acs, g1, r1, v1, k1⟩ := open_sh m t s hs fuel os _ _ hg (fun a n c hm => by
    obtain ⟨i, hi⟩ := List.mem_iff_getElem?.1 hm
    have hi2 : cs[i]? = some (.slice (some a) n c) := by rw [← Array.getElem?_toList]; exact hi
    obtain ⟨u, _, hc⟩ := hcell i _ hi2
    exact cell_pos hc) h0
  refine ⟨more, y, acs, g1, r1, .agg ?_ ?_, k1⟩
  · have := v1.len
    simpa [Value.cells] using this
  · intro i a b ha hb
    refine v1.rel i a b (by simpa using ha) ?_
    show cs.toList[i]? = some b
    rw [Array.getElem?_toList]; exact hb
theorem arel2 {L : Lay} {a A b B : Value} (h : VRel L a A) (h' : VRel L b B) : ARel L #[a, b] #[A, B] := by
  refine ⟨rfl, fun i v V h1 h2 => ?_⟩
  match i, h1, h2 with
  | 0, h1, h2 => simp at h1 h2; subst h1; subst h2; exact h
  | 1, h1, h2 => simp at h1 h2; subst h1; subst h2; exact h'
  | i + 2, h1, h2 => simp at h1
end Go.Dat
end
section
namespace Go.Abs
theorem Rel.below {L : Lay} {F R : Nat → Prop} {w0 w w' : World} {h : AHeap} (r : Rel L F R w0 w h) (b : RowKit.Below w.heap.size w w') : Rel L F R w0 w' h := by
  have hlt : ∀ x, F x → x < w.heap.size := fun x hx => Nat.lt_of_lt_of_le (r.inF x hx) r.keeps.size
  refine ⟨⟨b.os.trans r.keeps.os, b.tape.trans r.keeps.tape, b.output.trans r.keeps.output, Nat.le_trans r.keeps.size b.size, fun x hx => (b.block x (hlt x hx)).trans (r.keeps.block x hx)⟩, r.inF, r.inR, r.fresh, r.unl, fun l o s h1 h2 => ?_, r.free, r.ro, r.apart⟩
  have ob := r.obj l o s h1 h2
  refine ⟨ob.esz, ob.rw, Nat.lt_of_lt_of_le ob.lt b.size, ob.len, fun k row hr j v hv => ?_, fun ho => ?_⟩
  · obtain ⟨V, hV, hvr⟩ := ob.cell k row hr j v hv
    exact ⟨V, by rw [b.cell (p := ⟨s.blk, s.base + k * s.esz + j, none⟩) ob.lt]; exact hV, hvr⟩
  · obtain ⟨cs, T, fr, e, h2, h3⟩ := ob.own ho
    exact ⟨cs, T, fr, by rw [b.block _ ob.lt]; exact e, h2, h3⟩
end Go.Abs
end
section
namespace Go.Dat
open Go.Abs
def cat : List ByteArray → ByteArray
  | [] => ⟨#[]⟩
  | x :: xs => x ++ cat xs
theorem ba_ext {a b : ByteArray} (h : a.data.toList = b.data.toList) : a = b := by
  cases a; cases b; congr 1; exact Array.ext' h
theorem ba_append_nil (a : ByteArray) : a ++ (⟨#[]⟩ : ByteArray) = a := ba_ext (by simp)
theorem ba_nil_append (a : ByteArray) : (⟨#[]⟩ : ByteArray) ++ a = a := ba_ext (by simp)
theorem ba_assoc (a b c : ByteArray) : a ++ b ++ c = a ++ (b ++ c) := ba_ext (by simp)
theorem cat_append : ∀ (xs ys : List ByteArray), cat (xs ++ ys) = cat xs ++ cat ys
  | [], ys => (ba_nil_append _).symm
  | x :: xs, ys => by show x ++ cat (xs ++ ys) = x ++ cat xs ++ cat ys; rw [cat_append xs ys, ba_assoc]
structure BInv (h0 h : AHeap) (a : Option Addr) (n c : Nat) (b : ByteArray) : Prop where
  le : h0.Le h
  wf : h.wf
  wf0 : h0.wf
  nb : b.size = n
  at_ : (a = none ∧ n = 0 ∧ c = 0) ∨ ∃ l, a = some ⟨l, 0, some 1⟩ ∧ h0.n ≤ l ∧ h.get l = some ⟨bytesRows b, 1, true⟩ ∧ (c = 0 ∨ c = n + 1)
theorem bytesRows_len (b : ByteArray) : (bytesRows b).length = b.size := by
  unfold bytesRows
  rw [List.length_map]
  exact Array.length_toList
theorem bytesRows_app (a b : ByteArray) : bytesRows (a ++ b) = bytesRows a ++ bytesRows b := by
  unfold bytesRows; simp
theorem BInv.rows {h0 h : AHeap} {a : Option Addr} {n c : Nat} {b : ByteArray} (I : BInv h0 h a n c b) : h.rowsOf (.slice a n c) = some (bytesRows b) := by
  have hl := bytesRows_len b
  have nb := I.nb
  rcases I.at_ with ⟨rfl, rfl, rfl⟩ | ⟨l, rfl, _, hg, _⟩
  · have : bytesRows b = [] := List.eq_nil_of_length_eq_zero (by omega)
    rw [this]; rfl
  · rw [get_rowsOf hg (by omega), List.drop_zero, List.take_of_length_le (by omega)]
theorem BInv.app {h0 h : AHeap} {a : Option Addr} {n c : Nat} {b : ByteArray} (I : BInv h0 h a n c b) (d : ByteArray) :
    ∃ a' c' h', h.app (.slice a n c) (bytesRows d) 1 = some (.slice a' (n + d.size) c', h') ∧ BInv h0 h' a' (n + d.size) c' (b ++ d) := by
  have hd := bytesRows_len d
  have hb := bytesRows_len b
  have nb := I.nb
  have hr := I.rows
  have sz : (b ++ d).size = n + d.size := by rw [ByteArray.size_append]; omega
  unfold AHeap.app
  dsimp only
  cases hx : bytesRows d with
  | nil =>
    rw [hx] at hd
    have h0 : d.size = 0 := hd.symm
    have hd0 : d = ⟨#[]⟩ := ba_ext (by have : d.data.toList.length = 0 := by rw [Array.length_toList]; exact h0
                                       simpa using List.eq_nil_of_length_eq_zero this)
    subst hd0
    exact ⟨a, c, h, rfl, I.le, I.wf, I.wf0, by rw [ba_append_nil]; exact nb, by rw [ba_append_nil]; exact I.at_⟩
  | cons x xs =>
    rw [hx] at hd
    rcases I.at_ with ⟨rfl, rfl, rfl⟩ | ⟨l, rfl, hl, hg, hc⟩
    · have e0 : bytesRows b = [] := List.eq_nil_of_length_eq_zero (by omega)
      dsimp only
      refine ⟨_, _, _, by rw [hd, Nat.zero_add], I.le.trans (.push I.wf _), I.wf.push _, I.wf0, sz, .inr ⟨h.n, rfl, I.le.n, ?_, .inl rfl⟩⟩
      rw [AHeap.get_push_eq, bytesRows_app, e0, hx]; rfl
    · dsimp only
      rw [hr]
      dsimp only
      rw [beq_self_eq_true, cond_true]
      cases hcc : (c != 0 && decide (c ≤ n + (x :: xs).length)) with
      | true =>
        rw [cond_true]
        refine ⟨_, _, _, by rw [hd], I.le.trans (.push I.wf _), I.wf.push _, I.wf0, sz, .inr ⟨h.n, rfl, I.le.n, ?_, .inl rfl⟩⟩
        rw [AHeap.get_push_eq, bytesRows_app, hx]
      | false =>
        rw [cond_false, hg]
        dsimp only
        have hno : (c != 0 && decide (0 + n + (x :: xs).length ≤ (bytesRows b).length)) = false := by
          rw [Bool.and_eq_false_iff]; right; rw [decide_eq_false_iff_not, hb]; simp only [List.length_cons]; omega
        rw [cond_true, hno, cond_false]
        have w2 : (h.put l none).wf := I.wf.put (I.wf.lt hg) _
        refine ⟨_, _, _, by rw [hd], (I.le.put (I.wf0 l hl) none).trans (.push w2 _), w2.push _, I.wf0, sz, .inr ⟨h.n, rfl, I.le.n, ?_, .inl rfl⟩⟩
        show ((h.put l none).push _).get (h.put l none).n = _
        rw [AHeap.get_push_eq, bytesRows_app, hx]
end Go.Dat
end
section
namespace Go.Dat
open Go.Abs
def foldN (n : Int) : Nat := if n < 0 then (2 * (-(n + 1)) + 1).toNat else (2 * n).toNat
def oneB (v : Nat) : ByteArray := ⟨#[UInt8.ofNat v]⟩
def vb (u : Nat) : ByteArray := if u < 128 then oneB u else oneB (u % 128 + 128) ++ vb (u / 128)
termination_by u
decreasing_by omega
theorem vb_lo {u : Nat} (h : u < 128) : vb u = oneB u := by rw [vb, if_pos h]
theorem vb_hi {u : Nat} (h : ¬ u < 128) : vb u = oneB (u % 128 + 128) ++ vb (u / 128) := by rw [vb, if_neg h]
theorem oneB_size (v : Nat) : (oneB v).size = 1 := rfl
theorem vb_size : ∀ (k u : Nat), u < 128 ^ (k + 1) → (vb u).size ≤ k + 1
  | 0, u, h => by rw [vb_lo (by simpa using h)]; exact Nat.le_refl _
  | k + 1, u, h => by
    by_cases hu : u < 128
    · rw [vb_lo hu, oneB_size]; omega
    · rw [vb_hi hu, ByteArray.size_append, oneB_size]
      have := vb_size k (u / 128) (by rw [Nat.div_lt_iff_lt_mul (by omega), ← Nat.pow_succ]; exact h)
      omega
theorem foldN_lt {n : Int} (h : -9223372036854775808 ≤ n ∧ n ≤ 9223372036854775807) : foldN n < 18446744073709551616 := by
  unfold foldN; split <;> omega
theorem BInv.push {h0 h : AHeap} {a : Option Addr} {n c : Nat} {b : ByteArray} (I : BInv h0 h a n c b) (o : AObj) : BInv h0 (h.push o) a n c b :=
  ⟨I.le.trans (.push I.wf _), I.wf.push _, I.wf0, I.nb, I.at_.imp id fun ⟨l, e, h1, h2, h3⟩ => ⟨l, e, h1, (AHeap.Le.push I.wf o).get l _ h2, h3⟩⟩
theorem BInv.nil {h : AHeap} (hw : h.wf) : BInv h h none 0 0 ⟨#[]⟩ := ⟨.refl _, hw, hw, rfl, .inl ⟨rfl, rfl, rfl⟩⟩
end Go.Dat
namespace Go.Proofs.YtpgfjadjhliohaaGreat
open Go.Abs Go.Dat
set_option maxRecDepth 100000
set_option maxHeartbeats 4000000
end Go.Proofs.YtpgfjadjhliohaaGreat
end
section
namespace Go.Dat
open Go.Abs
def vt (t : ByteArray) : ByteArray := vb (foldN t.size) ++ t
end Go.Dat
namespace Go.Proofs.YtpgfjadjhliohaaGreat
open Go.Abs Go.Dat
set_option maxRecDepth 100000
set_option maxHeartbeats 4000000
end Go.Proofs.YtpgfjadjhliohaaGreat
end
section
namespace Go.Dat
open Go.Abs
def nb (n : Int) : ByteArray := vb (foldN n)
def grpB (g : groupSh.T) : ByteArray := cat [vt g.1, nb g.2]
def topPre (t : topicSh.T) (j : Nat) : List ByteArray := [vt t.1, nb t.2.1, nb t.2.2.1.length] ++ (t.2.2.1.take j).map vt
def topPre2 (t : topicSh.T) (j : Nat) : List ByteArray := topPre t t.2.2.1.length ++ [nb t.2.2.2.length] ++ (t.2.2.2.take j).map grpB
def topB (t : topicSh.T) : ByteArray := cat (topPre2 t t.2.2.2.length)
def repB (r : replySh.T) : ByteArray := cat [nb r.1, nb r.2.1, vt r.2.2]
def brkPre (ts : List topicSh.T) (i : Nat) : List ByteArray := [nb ts.length] ++ (ts.take i).map topB
def brkPre2 (ts : List topicSh.T) (rs : List replySh.T) (j : Nat) : List ByteArray := brkPre ts ts.length ++ [nb rs.length] ++ (rs.take j).map repB
theorem cat_size_app (L M : List ByteArray) : (cat (L ++ M)).size = (cat L).size + (cat M).size := by rw [cat_append, ByteArray.size_append]
theorem cat_size_cons (x : ByteArray) (L : List ByteArray) : (cat (x :: L)).size = x.size + (cat L).size := ByteArray.size_append
theorem cat_size_nil : (cat []).size = 0 := rfl
theorem cat_map_take {α : Type} {f : α → ByteArray} {m : Nat} : ∀ {xs : List α} (_ : ∀ x ∈ xs, (f x).size ≤ m) (j : Nat), (cat ((xs.take j).map f)).size ≤ m * xs.length
  | [], _, j => by rw [List.take_nil]; exact Nat.zero_le _
  | x :: xs, h, 0 => Nat.zero_le _
  | x :: xs, h, j + 1 => by
    have h1 := h x List.mem_cons_self
    have h2 := cat_map_take (xs := xs) (fun y hy => h y (List.mem_cons_of_mem _ hy)) j
    rw [List.take_succ_cons, List.map_cons, cat_size_cons, List.length_cons, Nat.mul_succ]; omega
theorem nb_size {n : Int} (h : -9223372036854775808 ≤ n ∧ n ≤ 9223372036854775807) : (nb n).size ≤ 10 := vb_size 9 _ (by have := foldN_lt h; omega)
theorem vt_size' {t : ByteArray} (h : t.size ≤ 1000000000) : (vt t).size ≤ t.size + 10 := by
  have := nb_size (n := t.size) (by omega)
  unfold vt; rw [ByteArray.size_append]; unfold nb at this; omega
def InR (lo hi x : Int) : Prop := lo ≤ x ∧ x ≤ hi
theorem nb_sz {lo hi n : Int} (h : InR lo hi n) (h1 : -9223372036854775808 ≤ lo) (h2 : hi ≤ 9223372036854775807) : (nb n).size ≤ 10 := nb_size (by unfold InR at h; omega)
structure TopSz (t : topicSh.T) : Prop where
  nm : t.1.size ≤ 20
  bs : InR 0 1000000000 t.2.1
  hl : t.2.2.1.length ≤ 20
  gl : t.2.2.2.length ≤ 4
  hs : ∀ m ∈ t.2.2.1, ByteArray.size m ≤ 40
  gs : ∀ g ∈ t.2.2.2, ByteArray.size g.1 ≤ 20 ∧ InR 0 2000000000 g.2
theorem TopicOk.sz {n : ByteArray} {b : Int} {hs : List Sh.str.T} {gs : List groupSh.T} (H : TopicOk n b hs gs) : TopSz (n, b, hs, gs) := by
  obtain ⟨h1, h2, h3, h4, h5, h6, h7⟩ := H
  refine ⟨h1.2.1, h2, h3, h4, fun m hm => ?_, fun g hg => ?_⟩
  · obtain ⟨i, hi⟩ := List.mem_iff_getElem?.1 hm
    have := (h6 i (List.getElem?_eq_some_iff.1 hi).1).out hi
    exact this.2
  · obtain ⟨i, hi⟩ := List.mem_iff_getElem?.1 hg
    obtain ⟨gn, (gk : Int)⟩ := g
    have := (h7 i (List.getElem?_eq_some_iff.1 hi).1).out (n := gn) (k := gk) hi
    refine ⟨this.1.2.1, ?_⟩
    show (0 : Int) ≤ gk ∧ gk ≤ 2000000000
    have h8 : hs.length ≤ 20 := h3
    omega
theorem TopSz.grp {t : topicSh.T} (H : TopSz t) : ∀ g ∈ t.2.2.2, (grpB g).size ≤ 40 := fun g hg => by
  have h1 := H.gs g hg
  have h2 := vt_size' (t := g.1) (by omega)
  have h3 := nb_sz h1.2 (by omega) (by omega)
  unfold grpB
  simp only [cat_size_cons, cat_size_nil]; omega
theorem TopSz.pre {t : topicSh.T} (H : TopSz t) (j : Nat) : (cat (topPre t j)).size ≤ 1050 := by
  have h1 := vt_size' (t := t.1) (by have := H.nm; omega)
  have h2 := nb_sz H.bs (by omega) (by omega)
  have h3 := nb_size (n := t.2.2.1.length) (by have := H.hl; omega)
  have h4 := cat_map_take (f := vt) (m := 50) (xs := t.2.2.1) (fun x hx => by have h5 := H.hs x hx; have := vt_size' (t := x) (by omega); omega) j
  have h5 := H.hl
  have h6 := H.nm
  have : 50 * t.2.2.1.length ≤ 1000 := by omega
  unfold topPre
  rw [cat_size_app]
  simp only [cat_size_cons, cat_size_nil]
  omega
theorem TopSz.pre2 {t : topicSh.T} (H : TopSz t) (j : Nat) : (cat (topPre2 t j)).size ≤ 1300 := by
  have h1 := H.pre t.2.2.1.length
  have h3 := nb_size (n := t.2.2.2.length) (by have := H.gl; omega)
  have h4 := cat_map_take H.grp j
  have h5 := H.gl
  unfold topPre2
  rw [cat_size_app, cat_size_app]
  simp only [cat_size_cons, cat_size_nil]
  omega
structure BrkSz (ts : List topicSh.T) (rs : List replySh.T) : Prop where
  tl : ts.length ≤ 4
  rl : rs.length ≤ 9
  ts : ∀ t ∈ ts, TopSz t
  rs : ∀ r ∈ rs, InR 1 9 r.1 ∧ InR 1 1000000000 r.2.1 ∧ ByteArray.size r.2.2 ≤ 900
theorem BrokerOk.sz {ts : List topicSh.T} {rs : List replySh.T} (H : BrokerOk ts rs) : BrkSz ts rs := by
  obtain ⟨h1, h2, h3, h4⟩ := H
  refine ⟨h1, h2, fun t ht => ?_, fun r hr => ?_⟩
  · obtain ⟨i, hi⟩ := List.mem_iff_getElem?.1 ht
    exact TopicOk.sz ((h3 i (List.getElem?_eq_some_iff.1 hi).1).out (n := t.1) (b := t.2.1) (hs := t.2.2.1) (gs := t.2.2.2) hi).1
  · obtain ⟨i, hi⟩ := List.mem_iff_getElem?.1 hr
    have := (h4 i (List.getElem?_eq_some_iff.1 hi).1).out (c := r.1) (n := r.2.1) (t := r.2.2) hi
    exact ⟨this.1, this.2.1, this.2.2.1⟩
theorem BrkSz.pre {ts : List topicSh.T} {rs : List replySh.T} (H : BrkSz ts rs) (i : Nat) : (cat (brkPre ts i)).size ≤ 5300 := by
  have h1 := nb_size (n := ts.length) (by have := H.tl; omega)
  have h2 := cat_map_take (f := topB) (m := 1300) (xs := ts) (fun t ht => (H.ts t ht).pre2 _) i
  have h3 := H.tl
  unfold brkPre
  rw [cat_size_app]
  simp only [cat_size_cons, cat_size_nil]
  omega
theorem BrkSz.rep {ts : List topicSh.T} {rs : List replySh.T} (H : BrkSz ts rs) : ∀ r ∈ rs, (repB r).size ≤ 930 := fun r hr => by
  obtain ⟨h1, h2, h3⟩ := H.rs r hr
  have h4 := nb_sz h1 (by omega) (by omega)
  have h5 := nb_sz h2 (by omega) (by omega)
  have h6 := vt_size' (t := r.2.2) (by omega)
  unfold repB
  simp only [cat_size_cons, cat_size_nil]; omega
theorem BrkSz.pre2 {ts : List topicSh.T} {rs : List replySh.T} (H : BrkSz ts rs) (j : Nat) : (cat (brkPre2 ts rs j)).size ≤ 14000 := by
  have h1 := H.pre ts.length
  have h2 := nb_size (n := rs.length) (by have := H.rl; omega)
  have h3 := cat_map_take H.rep j
  have h4 := H.rl
  unfold brkPre2
  rw [cat_size_app, cat_size_app]
  simp only [cat_size_cons, cat_size_nil]
  omega
end Go.Dat
namespace Go.Proofs.YtpgfjadjhliohaaGreat
open Go.Abs Go.Dat
set_option maxRecDepth 100000
set_option maxHeartbeats 8000000
theorem sizeString_spec (h : AHeap) (a : Option Addr) (n c : Nat) : ACall Tryz.prog 149 [.slice a n c] h (.int .i64 n) h := by
  refine acall_out (acall_vc (fun _ => false) (fun _ => []) (fun _ => .none) mixed Tryz.func149 rfl rfl rfl (Nat.le_of_ble_eq_true rfl) (by refine vc_mp (by kernel_rfl : (True ∧ True ∧ True) = _) ?_; simp only [and_self]) ?_)
  refine vc_mp (by kernel_rfl : (Value.int IntKind.i64 (↑n : Int) = Value.int IntKind.i64 (↑n : Int) ∧ h = h) = _) ?_
  exact ⟨rfl, rfl⟩
end Go.Proofs.YtpgfjadjhliohaaGreat
end
section
namespace Go.Dat
open Go.Abs
def bN (t : ByteArray) (k : Nat) : Nat := (t.data.toList.getD k 0).toNat
def gn (t : ByteArray) (a i u : Nat) : Option (Nat × Nat) :=
  if t.size ≤ a + i then none
  else if i = 9 ∧ 1 < bN t (a + i) then none
  else if 127 < bN t (a + i) then gn t a (i + 1) (u + bN t (a + i) % 128 * 128 ^ i)
  else if bN t (a + i) = 0 ∧ 0 < i then none
  else some (u + bN t (a + i) * 128 ^ i, a + i + 1)
termination_by t.size - (a + i)
decreasing_by omega
def unfoldN (u : Nat) : Int := if u % 2 = 1 then -((u / 2 : Nat) : Int) - 1 else ((u / 2 : Nat) : Int)
end Go.Dat
namespace Go.Proofs.YtpgfjadjhliohaaGreat
open Go.Abs Go.Dat
set_option maxRecDepth 100000
set_option maxHeartbeats 8000000
end Go.Proofs.YtpgfjadjhliohaaGreat
end
section
namespace Go.Dat
open Go.Abs
structure Out (J : List Nat) (g g' : AHeap) : Prop where
  shp : Shp g g'
  get : ∀ z o, z ∉ J → g.get z = some o → g'.get z = some o
theorem Out.refl {J : List Nat} {g : AHeap} : Out J g g := ⟨.refl _, fun _ _ _ h => h⟩
theorem Out.trans {J : List Nat} {a b c : AHeap} (x : Out J a b) (y : Out J b c) : Out J a c := ⟨x.shp.trans y.shp, fun z o hz h => y.get z o hz (x.get z o hz h)⟩
theorem Out.widen {J K : List Nat} {a b : AHeap} (x : Out J a b) (h : ∀ z ∈ J, z ∈ K) : Out K a b := ⟨x.shp, fun z o hz => x.get z o (fun e => hz (h z e))⟩
theorem Out.of_le {J : List Nat} {a b : AHeap} (x : a.Le b) : Out J a b := ⟨x.shp, fun z o _ h => x.get z o h⟩
theorem Out.put {g : AHeap} {l e : Nat} {rows rows' : List (List Value)} {b : Bool} (hg : g.get l = some ⟨rows, e, b⟩) (hl : rows'.length = rows.length) : Out [l] g (g.put l (some ⟨rows', e, b⟩)) := by
  refine ⟨⟨Nat.le_refl _, fun z q e' b' hz => ?_⟩, fun z o hz h => ?_⟩
  · by_cases hzl : z = l
    · subst hzl
      rw [hg] at hz
      cases hz
      exact ⟨rows', AHeap.get_put_eq, hl⟩
    · exact ⟨q, by rw [AHeap.get_put_ne hzl]; exact hz, rfl⟩
  · rw [AHeap.get_put_ne (fun e => hz (by simp [e]))]; exact h
theorem nin1 {l : Nat} {J : List Nat} (h : l ∉ J) : ∀ z ∈ J, z ∉ [l] := fun z hz e => h (by simp at e; subst e; exact hz)
theorem Sh.ro.out {J : List Nat} {h h' : AHeap} (hs : Out J h h') : ∀ {s : Sh} {x : s.T} {cs : List Value} {ids : List Nat}, (∀ l ∈ ids, l ∉ J) → s.ro h x cs ids → s.ro h' x cs ids := by
  intro s
  induction s with
  | int => intro x cs ids _ e; exact e
  | bool => intro x cs ids _ e; exact e
  | str => intro x cs ids _ e; exact e
  | byte => intro x cs ids _ e; exact e
  | pair a b iha ihb =>
    rintro x cs ids hi ⟨c1, c2, i1, i2, e, rfl, h1, h2⟩
    exact ⟨c1, c2, i1, i2, e, rfl, iha (fun l hl => hi l (List.mem_append_left _ hl)) h1, ihb (fun l hl => hi l (List.mem_append_right _ hl)) h2⟩
  | sl e ih =>
    rintro xs cs ids hi ⟨a, n, c, rfl, hs', hn, ⟨rfl, e2, h1⟩ | ⟨l, r, rows, idss, rfl, hg, hr, hl, rfl, hx⟩⟩
    · exact ⟨a, 0, c, rfl, hs', hn, .inl ⟨rfl, e2, hs.shp.none hs' h1⟩⟩
    · refine ⟨_, n, c, rfl, hs', hn, .inr ⟨l, r, rows, idss, rfl, hs.get _ _ (hi l (by simp)) hg, hr, hl, rfl, fun i x row js h1 h2 h3 => ih (fun q hq => hi q ?_) (hx i x row js h1 h2 h3)⟩⟩
      exact List.mem_cons_of_mem _ (List.mem_flatten.2 ⟨js, List.mem_of_getElem? h3, hq⟩)
theorem So.out {J : List Nat} {h h' : AHeap} {s : Sh} {xs : List s.T} {v : Value} {ids : List Nat} (x : So h s xs v ids) (hs : Out J h h') (hi : ∀ l ∈ ids, l ∉ J) : So h' s xs v ids := by
  obtain ⟨v', e, h1⟩ := ro_sl.1 (Sh.ro.out hs hi (ro_sl.2 ⟨v, rfl, x⟩))
  cases e; exact h1
def mrkL {α : Type} (f : α → Int → α × Int) : List α → Int → List α × Int
  | [], k => ([], k)
  | x :: xs, k => ((f x k).1 :: (mrkL f xs (f x k).2).1, (mrkL f xs (f x k).2).2)
def Sh.mkd : (s : Sh) → s.T → Int → s.T × Int
  | .int, _, k => (k, k + 1)
  | .bool, _, k => (decide (k % 3 = 0), k + 1)
  | .str, _, k => (mtext k, k + 1)
  | .byte, x, k => (x, k)
  | .pair a b, x, k => (((a.mkd x.1 k).1, (b.mkd x.2 (a.mkd x.1 k).2).1), (b.mkd x.2 (a.mkd x.1 k).2).2)
  | .sl e, xs, k => mrkL (α := e.T) e.mkd xs k
def Sh.mkv : (s : Sh) → s.T → Int → s.T × Int
  | .int, x, k => (x, k)
  | .bool, x, k => (x, k)
  | .str, x, k => (x, k)
  | .byte, x, k => (x, k)
  | .pair a b, x, k => (((a.mkv x.1 k).1, (b.mkv x.2 (a.mkv x.1 k).2).1), (b.mkv x.2 (a.mkv x.1 k).2).2)
  | .sl e, xs, k => mrkL (α := e.T) e.mkd xs k
def Sh.cn : (s : Sh) → s.T → Nat
  | .int, _ => 1
  | .bool, _ => 1
  | .str, _ => 1
  | .byte, _ => 0
  | .pair a b, x => a.cn x.1 + b.cn x.2
  | .sl e, xs => (List.map (α := e.T) e.cn xs).sum
def Sh.cv : (s : Sh) → s.T → Nat
  | .int, _ => 0
  | .bool, _ => 0
  | .str, _ => 0
  | .byte, _ => 0
  | .pair a b, x => a.cv x.1 + b.cv x.2
  | .sl e, xs => (List.map (α := e.T) e.cn xs).sum
theorem mrkL_cn {α : Type} {f : α → Int → α × Int} {c : α → Nat} (hf : ∀ x k, (f x k).2 = k + c x) : ∀ (xs : List α) (k : Int), (mrkL f xs k).2 = k + ((xs.map c).sum : Nat) := by
  intro xs
  induction xs with
  | nil => intro k; simp [mrkL]
  | cons x xs ih => intro k; simp only [mrkL, ih, hf, List.map_cons, List.sum_cons]; omega
theorem Sh.mkd_cn : ∀ (s : Sh) (x : s.T) (k : Int), (s.mkd x k).2 = k + s.cn x := by
  intro s
  induction s with
  | int => intro x k; rfl
  | bool => intro x k; rfl
  | str => intro x k; rfl
  | byte => intro x k; simp [Sh.mkd, Sh.cn]
  | pair a b iha ihb => intro x k; simp only [Sh.mkd, Sh.cn, iha, ihb]; omega
  | sl e ih => intro x k; exact mrkL_cn ih x k
theorem Sh.mkv_cv : ∀ (s : Sh) (x : s.T) (k : Int), (s.mkv x k).2 = k + s.cv x := by
  intro s
  induction s with
  | int => intro x k; simp [Sh.mkv, Sh.cv]
  | bool => intro x k; simp [Sh.mkv, Sh.cv]
  | str => intro x k; simp [Sh.mkv, Sh.cv]
  | byte => intro x k; simp [Sh.mkv, Sh.cv]
  | pair a b iha ihb => intro x k; simp only [Sh.mkv, Sh.cv, iha, ihb]; omega
  | sl e ih => intro x k; exact mrkL_cn e.mkd_cn x k
theorem Sh.mkd_le (s : Sh) (x : s.T) (k : Int) : k ≤ (s.mkd x k).2 := by rw [s.mkd_cn]; omega
theorem Sh.mkv_le (s : Sh) (x : s.T) (k : Int) : k ≤ (s.mkv x k).2 := by rw [s.mkv_cv]; omega
theorem Sh.mrkL_le (s : Sh) (xs : List s.T) (k : Int) : k ≤ (mrkL s.mkd xs k).2 := by rw [mrkL_cn s.mkd_cn]; omega
theorem mrkL_len {α : Type} {f : α → Int → α × Int} : ∀ (xs : List α) (k : Int), (mrkL f xs k).1.length = xs.length := by
  intro xs
  induction xs with
  | nil => intro k; rfl
  | cons x xs ih => intro k; simp only [mrkL, List.length_cons, ih]
theorem sum_le {l : List Nat} {b : Nat} (h : ∀ x ∈ l, x ≤ b) : l.sum ≤ l.length * b := by
  induction l with
  | nil => simp
  | cons x xs ih =>
    have h1 := h x (by simp)
    have h2 := ih (fun y hy => h y (by simp [hy]))
    rw [List.sum_cons, List.length_cons, Nat.succ_mul]; omega
theorem Sh.cn_sl {e : Sh} {xs : List e.T} {m b : Nat} (hl : xs.length ≤ m) (h : ∀ x ∈ xs, e.cn x ≤ b) : (Sh.sl e).cn xs ≤ m * b := by
  have : (xs.map e.cn).sum ≤ (xs.map e.cn).length * b := sum_le (fun x hx => by
    obtain ⟨y, hy, rfl⟩ := List.mem_map.1 hx
    exact h y hy)
  rw [List.length_map] at this
  exact Nat.le_trans this (Nat.mul_le_mul_right _ hl)
structure El (g0 : AHeap) (l p : Nat) (rows : List (List Value)) (e : Nat) (js : List Nat) (g : AHeap) (cs : List Value) : Prop where
  get : g.get l = some ⟨rows.set p cs, e, true⟩
  hp : p < rows.length
  wf : g.wf
  out : Out (l :: js) g0 g
theorem El.wr {g0 : AHeap} {l p : Nat} {rows : List (List Value)} {e : Nat} {js : List Nat} {g : AHeap} {cs : List Value} (E : El g0 l p rows e js g cs) (j : Nat) (ws cs' : List Value) (hj : j + ws.length ≤ cs.length) (hc : setRange cs j ws = cs') :
    ∃ g', g.wr l p j ws = some g' ∧ El g0 l p rows e js g' cs' ∧ Out [l] g g' := by
  have o : Out [l] g (g.put l (some ⟨rows.set p cs', e, true⟩)) := .put E.get (by simp)
  refine ⟨g.put l (some ⟨rows.set p cs', e, true⟩), ?_, ⟨AHeap.get_put_eq, E.hp, E.wf.put (E.wf.lt E.get) _, E.out.trans (o.widen (by simp))⟩, o⟩
  unfold AHeap.wr
  rw [E.get]
  dsimp only
  rw [List.getElem?_set, if_pos rfl, if_pos E.hp]
  dsimp only
  rw [decide_eq_true hj, Bool.true_and, cond_true, List.set_set, hc]
theorem El.le {g0 : AHeap} {l p : Nat} {rows : List (List Value)} {e : Nat} {js : List Nat} {g g' : AHeap} {cs : List Value} (E : El g0 l p rows e js g cs) (hle : g.Le g') (w : g'.wf) : El g0 l p rows e js g' cs :=
  ⟨hle.get _ _ E.get, E.hp, w, E.out.trans (.of_le hle)⟩
theorem El.call {g0 : AHeap} {l p : Nat} {rows : List (List Value)} {e : Nat} {js J : List Nat} {g g' : AHeap} {cs : List Value} (E : El g0 l p rows e js g cs) (o : Out J g g') (w : g'.wf) (hl : l ∉ J) (hJ : ∀ z ∈ J, z ∈ js) : El g0 l p rows e js g' cs :=
  ⟨o.get _ _ hl E.get, E.hp, w, E.out.trans (o.widen fun z hz => List.mem_cons_of_mem _ (hJ z hz))⟩
theorem El.ld {g0 : AHeap} {l p : Nat} {rows : List (List Value)} {e : Nat} {js : List Nat} {g : AHeap} {cs : List Value} (E : El g0 l p rows e js g cs) (j m : Nat) (hj : j + m ≤ cs.length) : g.ld l p j m = some ((cs.drop j).take m) := by
  unfold AHeap.ld
  rw [E.get]
  dsimp only
  rw [List.getElem?_set, if_pos rfl, if_pos E.hp]
  dsimp only
  rw [decide_eq_true hj, cond_true]
theorem So.elem {g : AHeap} {s : Sh} {ys : List s.T} {v : Value} {ids : List Nat} (so : So g s ys v ids) (nd : ids.Nodup) (wf : g.wf) {i : Nat} {y : s.T} (hy : ys[i]? = some y) :
    ∃ l r n c rows cs js, v = .slice (some ⟨l, r, some s.cells⟩) n c ∧ i < n ∧ El g l (r + i) rows s.cells js g cs ∧ s.ro g y cs js ∧ l ∉ js ∧ js.Nodup ∧ (∀ z ∈ l :: js, z ∈ ids) ∧
      ∀ g' cs' y', El g l (r + i) rows s.cells js g' cs' → s.ro g' y' cs' js → So g' s (ys.set i y') v ids := by
  obtain ⟨a, n, c, rfl, hs, hl, ⟨rfl, rfl, h0⟩ | ⟨l, r, rows, idss, rfl, hg, hr, hil, rfl, hx⟩⟩ := so
  · have : ys = [] := List.eq_nil_of_length_eq_zero hl
    subst this; simp at hy
  have hi : i < n := by rw [← hl]; exact (List.getElem?_eq_some_iff.1 hy).1
  have hrow : rows[r + i]? = some rows[r + i] := List.getElem?_eq_getElem (by omega)
  have hjs : idss[i]? = some idss[i] := List.getElem?_eq_getElem (by omega)
  have hsub : ∀ (j : Nat) (q : List Nat), idss[j]? = some q → ∀ z ∈ q, z ∈ idss.flatten := fun j q hq z hz => List.mem_flatten.2 ⟨q, List.mem_of_getElem? hq, hz⟩
  rw [List.nodup_cons] at nd
  have ndf := List.pairwise_flatten.1 nd.2
  refine ⟨l, r, n, c, rows, rows[r + i], idss[i], rfl, hi, ⟨by rw [List.set_getElem_self]; exact hg, by omega, wf, .refl⟩, hx i y _ _ hy hrow hjs, fun e => nd.1 (hsub i _ hjs l e), ndf.1 _ (List.mem_of_getElem? hjs), fun z hz => ?_, fun g' cs' y' E ro' => ?_⟩
  · rcases List.mem_cons.1 hz with rfl | hz
    · exact List.mem_cons_self
    · exact List.mem_cons_of_mem _ (hsub i _ hjs z hz)
  · refine ⟨_, n, c, rfl, hs, by rw [List.length_set]; exact hl, .inr ⟨l, r, rows.set (r + i) cs', idss, rfl, E.get, by rw [List.length_set]; exact hr, hil, rfl, fun j x row js h1 h2 h3 => ?_⟩⟩
    by_cases hji : j = i
    · subst hji
      rw [List.getElem?_set, if_pos rfl, if_pos (by omega)] at h1 h2
      rw [hjs] at h3
      cases h1; cases h2; cases h3
      exact ro'
    · rw [List.getElem?_set, if_neg (by omega)] at h1 h2
      refine Sh.ro.out E.out (fun z hz e => ?_) (hx j x row js h1 h2 h3)
      rcases List.mem_cons.1 e with rfl | e
      · exact nd.1 (hsub j _ h3 _ hz)
      · obtain ⟨hj1, ej⟩ := List.getElem?_eq_some_iff.1 h3
        have hp := List.pairwise_iff_getElem.1 ndf.2
        rcases Nat.lt_or_gt_of_ne hji with hlt | hgt
        · exact hp j i hj1 (by omega) hlt z (by rw [ej]; exact hz) z e rfl
        · exact hp i j (by omega) hj1 hgt z e z (by rw [ej]; exact hz) rfl
structure MkI (s : Sh) (h : AHeap) (xs : List s.T) (k : Int) (v : Value) (ids : List Nat) (i : Nat) (ki : Int) (g : AHeap) (ys : List s.T) : Prop where
  hi : i ≤ xs.length
  k0 : 0 ≤ ki
  wf : g.wf
  out : Out ids h g
  so : So g s ys v ids
  rest : ys.drop i = xs.drop i
  eq1 : (mrkL s.mkd xs k).1 = ys.take i ++ (mrkL s.mkd (xs.drop i) ki).1
  eq2 : (mrkL s.mkd xs k).2 = (mrkL s.mkd (xs.drop i) ki).2
theorem MkI.start {s : Sh} {h : AHeap} {xs : List s.T} {k : Int} {v : Value} {ids : List Nat} (hw : h.wf) (hk : 0 ≤ k) (so : So h s xs v ids) : MkI s h xs k v ids 0 k h xs :=
  ⟨Nat.zero_le _, hk, hw, .refl, so, rfl, rfl, rfl⟩
theorem MkI.at {s : Sh} {h : AHeap} {xs : List s.T} {k : Int} {v : Value} {ids : List Nat} {i : Nat} {ki : Int} {g : AHeap} {ys : List s.T} (I : MkI s h xs k v ids i ki g ys) {x : s.T} (hx : xs[i]? = some x) : ys[i]? = some x := by
  have h1 : (ys.drop i)[0]? = (xs.drop i)[0]? := by rw [I.rest]
  rw [List.getElem?_drop, List.getElem?_drop, Nat.add_zero] at h1
  rw [h1, hx]
theorem drop_at {α : Type} {xs : List α} {i : Nat} {x : α} (hx : xs[i]? = some x) : xs.drop i = x :: xs.drop (i + 1) := by
  obtain ⟨hi, e⟩ := List.getElem?_eq_some_iff.1 hx
  rw [List.drop_eq_getElem_cons hi, e]
theorem MkI.bound {s : Sh} {h : AHeap} {xs : List s.T} {k : Int} {v : Value} {ids : List Nat} {i : Nat} {ki : Int} {g : AHeap} {ys : List s.T} (I : MkI s h xs k v ids i ki g ys) {x : s.T} (hx : xs[i]? = some x) {b : Int} (hb : (mrkL s.mkd xs k).2 ≤ b) : (s.mkd x ki).2 ≤ b := by
  have h1 := I.eq2
  rw [drop_at hx] at h1
  simp only [mrkL] at h1
  have := s.mrkL_le (xs.drop (i + 1)) (s.mkd x ki).2
  omega
theorem MkI.step {s : Sh} {h : AHeap} {xs : List s.T} {k : Int} {v : Value} {ids : List Nat} {i : Nat} {ki : Int} {g : AHeap} {ys : List s.T} (I : MkI s h xs k v ids i ki g ys) {x : s.T} (hx : xs[i]? = some x) {g' : AHeap} (wf : g'.wf) (o : Out ids g g') (so : So g' s (ys.set i (s.mkd x ki).1) v ids) :
    MkI s h xs k v ids (i + 1) (s.mkd x ki).2 g' (ys.set i (s.mkd x ki).1) := by
  obtain ⟨hi, e⟩ := List.getElem?_eq_some_iff.1 hx
  have hyi : i < ys.length := (List.getElem?_eq_some_iff.1 (I.at hx)).1
  have h1 := I.eq1
  have h2 := I.eq2
  rw [drop_at hx] at h1 h2
  simp only [mrkL] at h1 h2
  refine ⟨hi, Int.le_trans I.k0 (s.mkd_le x ki), wf, I.out.trans o, so, ?_, ?_, h2⟩
  · rw [List.drop_set, if_pos (by omega)]
    have := I.rest
    rw [drop_at hx, drop_at (I.at hx)] at this
    exact (List.cons.inj this).2
  · rw [h1, List.take_add_one, List.getElem?_set, if_pos rfl, if_pos hyi, List.take_set_of_le (Nat.le_refl _), List.append_assoc]; rfl
theorem MkI.finish {s : Sh} {h : AHeap} {xs : List s.T} {k : Int} {v : Value} {ids : List Nat} {i : Nat} {ki : Int} {g : AHeap} {ys : List s.T} (I : MkI s h xs k v ids i ki g ys) (hi : i = xs.length) : (mrkL s.mkd xs k).2 = ki ∧ So g s (mrkL s.mkd xs k).1 v ids := by
  have h1 := I.eq1
  have h2 := I.eq2
  have hr := I.rest
  subst hi
  rw [List.drop_length] at h1 h2 hr
  have hl : ys.length ≤ xs.length := List.drop_eq_nil_iff.1 hr
  rw [List.take_of_length_le hl] at h1
  simp only [mrkL, List.append_nil] at h1 h2
  exact ⟨h2, by rw [h1]; exact I.so⟩
def _root_.Go.Abs.mkLp (s : Sh) (h : AHeap) (xs : List s.T) (k : Int) (v : Value) (ids : List Nat) : LSpec where
  ι := Nat × Int × AHeap × List s.T
  κ := AHeap
  I := fun i => MkI s h xs k v ids i.1 i.2.1 i.2.2.1 i.2.2.2
  μ := fun i => xs.length - i.1
  head := fun i => ⟨[(0, v), (1, .int .i64 i.2.1), (5, .int .i64 i.1)], [], i.2.2.1⟩
  post := fun j => ⟨[(1, .int .i64 (mrkL s.mkd xs k).2)], [], j⟩
  R := fun _ j => j.wf ∧ Out ids h j ∧ So j s (mrkL s.mkd xs k).1 v ids
  ret := fun _ _ _ => False
structure HdI (s : Sh) (h : AHeap) (xs : List s.T) (k : Int) (i : Nat) (ki : Int) (g : AHeap) : Prop where
  hi : i ≤ xs.length
  k0 : 0 ≤ ki
  wf : g.wf
  le : h.Le g
  rest : (mrkL s.mkd xs k).1.drop i = (mrkL s.mkd (xs.drop i) ki).1
  eq2 : (mrkL s.mkd xs k).2 = (mrkL s.mkd (xs.drop i) ki).2
theorem HdI.start {s : Sh} {h : AHeap} {xs : List s.T} {k : Int} (hw : h.wf) (hk : 0 ≤ k) : HdI s h xs k 0 k h := ⟨Nat.zero_le _, hk, hw, .refl _, rfl, rfl⟩
theorem HdI.at {s : Sh} {h : AHeap} {xs : List s.T} {k : Int} {i : Nat} {ki : Int} {g : AHeap} (I : HdI s h xs k i ki g) {x : s.T} (hx : xs[i]? = some x) : (mrkL s.mkd xs k).1[i]? = some (s.mkd x ki).1 := by
  have h1 : ((mrkL s.mkd xs k).1.drop i)[0]? = ((mrkL s.mkd (xs.drop i) ki).1)[0]? := by rw [I.rest]
  rw [List.getElem?_drop, Nat.add_zero, drop_at hx] at h1
  exact h1
theorem HdI.bound {s : Sh} {h : AHeap} {xs : List s.T} {k : Int} {i : Nat} {ki : Int} {g : AHeap} (I : HdI s h xs k i ki g) {x : s.T} (hx : xs[i]? = some x) {b : Int} (hb : (mrkL s.mkd xs k).2 ≤ b) : (s.mkd x ki).2 ≤ b := by
  have h1 := I.eq2
  rw [drop_at hx] at h1
  simp only [mrkL] at h1
  have := s.mrkL_le (xs.drop (i + 1)) (s.mkd x ki).2
  omega
theorem HdI.step {s : Sh} {h : AHeap} {xs : List s.T} {k : Int} {i : Nat} {ki : Int} {g : AHeap} (I : HdI s h xs k i ki g) {x : s.T} (hx : xs[i]? = some x) {g' : AHeap} (wf : g'.wf) (le : g.Le g') : HdI s h xs k (i + 1) (s.mkd x ki).2 g' := by
  have h1 := I.rest
  have h2 := I.eq2
  rw [drop_at hx] at h1 h2
  simp only [mrkL] at h1 h2
  refine ⟨(List.getElem?_eq_some_iff.1 hx).1, Int.le_trans I.k0 (s.mkd_le x ki), wf, I.le.trans le, ?_, h2⟩
  have h3 : ((mrkL s.mkd xs k).1.drop i).drop 1 = ((s.mkd x ki).1 :: (mrkL s.mkd (xs.drop (i + 1)) (s.mkd x ki).2).1).drop 1 := by rw [h1]
  rw [List.drop_drop] at h3
  exact h3
theorem HdI.finish {s : Sh} {h : AHeap} {xs : List s.T} {k : Int} {i : Nat} {ki : Int} {g : AHeap} (I : HdI s h xs k i ki g) (hi : i = xs.length) : (mrkL s.mkd xs k).2 = ki := by
  have h2 := I.eq2
  subst hi
  rw [List.drop_length] at h2
  exact h2
def _root_.Go.Abs.hdLp (s : Sh) (h : AHeap) (xs : List s.T) (k : Int) (v : Value) : LSpec where
  ι := Nat × Int × AHeap
  κ := AHeap
  I := fun i => HdI s h xs k i.1 i.2.1 i.2.2
  μ := fun i => xs.length - i.1
  head := fun i => ⟨[(0, v), (1, .int .i64 i.2.1), (5, .int .i64 i.1)], [], i.2.2⟩
  post := fun j => ⟨[(1, .int .i64 (mrkL s.mkd xs k).2)], [], j⟩
  R := fun _ j => j.wf ∧ h.Le j
  ret := fun _ _ _ => False
def Sh.rn (h : AHeap) : (s : Sh) → s.T → List Value → List Nat → Prop
  | .int, x, cs, ids => cs = [.int .i64 x] ∧ ids = []
  | .bool, x, cs, ids => cs = [.bool x] ∧ ids = []
  | .str, x, cs, ids => cs = [.string x] ∧ ids = []
  | .byte, x, cs, ids => cs = [.int .u8 x] ∧ ids = []
  | .pair a b, x, cs, ids => ∃ c1 c2 i1 i2, cs = c1 ++ c2 ∧ ids = i1 ++ i2 ∧ a.rn h x.1 c1 i1 ∧ b.rn h x.2 c2 i2
  | .sl e, xs, cs, ids => ∃ a n c, cs = [.slice a n c] ∧ List.length (α := e.T) xs = n ∧
      ((a = none ∧ n = 0 ∧ c = 0 ∧ ids = []) ∨ ∃ l r rows idss, a = some ⟨l, r, some e.cells⟩ ∧ h.get l = some ⟨rows, e.cells, true⟩ ∧ r + n ≤ rows.length ∧ List.length (α := List Nat) idss = n ∧ ids = l :: idss.flatten ∧
        ∀ (i : Nat) (x : e.T) (row : List Value) (js : List Nat), (show List e.T from xs)[i]? = some x → rows[r + i]? = some row → idss[i]? = some js → e.rn h x row js)
def Sn (h : AHeap) (s : Sh) (xs : List s.T) (v : Value) (ids : List Nat) : Prop :=
  ∃ a n c, v = .slice a n c ∧ xs.length = n ∧
      ((a = none ∧ n = 0 ∧ c = 0 ∧ ids = []) ∨ ∃ l r rows idss, a = some ⟨l, r, some s.cells⟩ ∧ h.get l = some ⟨rows, s.cells, true⟩ ∧ r + n ≤ rows.length ∧ List.length (α := List Nat) idss = n ∧ ids = l :: idss.flatten ∧
        ∀ (i : Nat) (x : s.T) (row : List Value) (js : List Nat), xs[i]? = some x → rows[r + i]? = some row → idss[i]? = some js → s.rn h x row js)
theorem rn_sl {h : AHeap} {s : Sh} {xs : List s.T} {cs : List Value} {ids : List Nat} : Sh.rn h (.sl s) xs cs ids ↔ ∃ v, cs = [v] ∧ Sn h s xs v ids := by
  constructor
  · rintro ⟨a, n, c, rfl, h1⟩
    exact ⟨_, rfl, a, n, c, rfl, h1⟩
  · rintro ⟨_, rfl, a, n, c, rfl, h1⟩
    exact ⟨a, n, c, rfl, h1⟩
theorem Sh.rn.ro {h : AHeap} : ∀ {s : Sh} {x : s.T} {cs : List Value} {ids : List Nat}, s.rn h x cs ids → s.ro h x cs ids := by
  intro s
  induction s with
  | int => intro x cs ids e; exact e
  | bool => intro x cs ids e; exact e
  | str => intro x cs ids e; exact e
  | byte => intro x cs ids e; exact e
  | pair a b iha ihb =>
    rintro x cs ids ⟨c1, c2, i1, i2, e, e2, h1, h2⟩
    exact ⟨c1, c2, i1, i2, e, e2, iha h1, ihb h2⟩
  | sl e ih =>
    rintro xs cs ids ⟨a, n, c, rfl, hn, ⟨rfl, rfl, rfl, rfl⟩ | ⟨l, r, rows, idss, rfl, hg, hr, hl, rfl, hx⟩⟩
    · exact ⟨none, 0, 0, rfl, .inl ⟨rfl, rfl, rfl⟩, hn, .inl ⟨rfl, rfl, rfl⟩⟩
    · exact ⟨_, n, c, rfl, .inr ⟨l, r, rfl⟩, hn, .inr ⟨l, r, rows, idss, rfl, hg, hr, hl, rfl, fun i x row js h1 h2 h3 => ih (hx i x row js h1 h2 h3)⟩⟩
theorem Sn.so {h : AHeap} {s : Sh} {xs : List s.T} {v : Value} {ids : List Nat} (x : Sn h s xs v ids) : So h s xs v ids := by
  obtain ⟨v', e, h1⟩ := ro_sl.1 (Sh.rn.ro (rn_sl.2 ⟨v, rfl, x⟩))
  cases e; exact h1
theorem Sh.rn.keep {h g : AHeap} : ∀ {s : Sh} {x : s.T} {cs : List Value} {ids : List Nat}, (∀ z ∈ ids, ∀ o, h.get z = some o → g.get z = some o) → s.rn h x cs ids → s.rn g x cs ids := by
  intro s
  induction s with
  | int => intro x cs ids _ e; exact e
  | bool => intro x cs ids _ e; exact e
  | str => intro x cs ids _ e; exact e
  | byte => intro x cs ids _ e; exact e
  | pair a b iha ihb =>
    rintro x cs ids hi ⟨c1, c2, i1, i2, e, rfl, h1, h2⟩
    exact ⟨c1, c2, i1, i2, e, rfl, iha (fun l hl => hi l (List.mem_append_left _ hl)) h1, ihb (fun l hl => hi l (List.mem_append_right _ hl)) h2⟩
  | sl e ih =>
    rintro xs cs ids hi ⟨a, n, c, rfl, hn, ⟨rfl, rfl, rfl, rfl⟩ | ⟨l, r, rows, idss, rfl, hg, hr, hl, rfl, hx⟩⟩
    · exact ⟨none, 0, 0, rfl, hn, .inl ⟨rfl, rfl, rfl, rfl⟩⟩
    · refine ⟨_, n, c, rfl, hn, .inr ⟨l, r, rows, idss, rfl, hi l (by simp) _ hg, hr, hl, rfl, fun i x row js h1 h2 h3 => ih (fun q hq => hi q ?_) (hx i x row js h1 h2 h3)⟩⟩
      exact List.mem_cons_of_mem _ (List.mem_flatten.2 ⟨js, List.mem_of_getElem? h3, hq⟩)
theorem Sh.rn.le {h g : AHeap} (le : h.Le g) {s : Sh} {x : s.T} {cs : List Value} {ids : List Nat} (r : s.rn h x cs ids) : s.rn g x cs ids := r.keep (fun z _ o hz => le.get z o hz)
theorem Sn.keep {h g : AHeap} {s : Sh} {xs : List s.T} {v : Value} {ids : List Nat} (x : Sn h s xs v ids) (hi : ∀ z ∈ ids, ∀ o, h.get z = some o → g.get z = some o) : Sn g s xs v ids := by
  obtain ⟨v', e, h1⟩ := rn_sl.1 (Sh.rn.keep hi (rn_sl.2 ⟨v, rfl, x⟩))
  cases e; exact h1
theorem Sn.le {h g : AHeap} (le : h.Le g) {s : Sh} {xs : List s.T} {v : Value} {ids : List Nat} (x : Sn h s xs v ids) : Sn g s xs v ids := x.keep (fun z _ o hz => le.get z o hz)
theorem Sn.nil {h : AHeap} {s : Sh} : Sn h s [] (.slice none 0 0) [] := ⟨none, 0, 0, rfl, rfl, .inl ⟨rfl, rfl, rfl, rfl⟩⟩
structure SoB (s : Sh) (h0 h : AHeap) (a : Option Addr) (n c : Nat) (xs : List s.T) (ids : List Nat) : Prop where
  le : h0.Le h
  wf : h.wf
  wf0 : h0.wf
  len : xs.length = n
  fr : Fresh h0.n h.n ids
  at_ : (a = none ∧ n = 0 ∧ c = 0 ∧ ids = []) ∨ ∃ l rows idss, a = some ⟨l, 0, some s.cells⟩ ∧ h.get l = some ⟨rows, s.cells, true⟩ ∧ rows.length = n ∧ List.length (α := List Nat) idss = n ∧ ids = l :: idss.flatten ∧ (c = 0 ∨ c = n + 1) ∧
    ∀ (i : Nat) (x : s.T) (row : List Value) (js : List Nat), xs[i]? = some x → rows[i]? = some row → idss[i]? = some js → s.rn h x row js
theorem SoB.nil {s : Sh} {h : AHeap} (hw : h.wf) : SoB s h h none 0 0 [] [] := ⟨.refl _, hw, hw, rfl, .nil, .inl ⟨rfl, rfl, rfl, rfl⟩⟩
theorem SoB.sn {s : Sh} {h0 h : AHeap} {a : Option Addr} {n c : Nat} {xs : List s.T} {ids : List Nat} (B : SoB s h0 h a n c xs ids) : Sn h s xs (.slice a n c) ids := by
  obtain ⟨rfl, rfl, rfl, rfl⟩ | ⟨l, rows, idss, rfl, hg, hr, hi, rfl, hc, hx⟩ := B.at_
  · exact ⟨none, 0, 0, rfl, B.len, .inl ⟨rfl, rfl, rfl, rfl⟩⟩
  · exact ⟨_, n, c, rfl, B.len, .inr ⟨l, 0, rows, idss, rfl, hg, by omega, hi, rfl, fun i x row js h1 h2 h3 => hx i x row js h1 (by rw [Nat.zero_add] at h2; exact h2) h3⟩⟩
theorem SoB.step {s : Sh} {h0 h h' : AHeap} {a : Option Addr} {n c : Nat} {xs : List s.T} {ids : List Nat} (B : SoB s h0 h a n c xs ids) (le0 : h0.Le h') (wf : h'.wf) (hn : h.n ≤ h'.n) (hk : ∀ z ∈ ids, ∀ o, h.get z = some o → h'.get z = some o) : SoB s h0 h' a n c xs ids :=
  ⟨le0, wf, B.wf0, B.len, B.fr.widen (Nat.le_refl _) hn, by
    obtain e | ⟨l, rows, idss, e, hg, hr, hi, e2, hc, hx⟩ := B.at_
    · exact .inl e
    · subst e2
      exact .inr ⟨l, rows, idss, e, hk l List.mem_cons_self _ hg, hr, hi, rfl, hc, fun i x row js h1 h2 h3 => (hx i x row js h1 h2 h3).keep (fun z hz => hk z (List.mem_cons_of_mem _ (List.mem_flatten.2 ⟨js, List.mem_of_getElem? h3, hz⟩)))⟩⟩
theorem SoB.grow {s : Sh} {h0 h h' : AHeap} {a : Option Addr} {n c : Nat} {xs : List s.T} {ids : List Nat} (B : SoB s h0 h a n c xs ids) (le : h.Le h') (wf : h'.wf) : SoB s h0 h' a n c xs ids :=
  B.step (B.le.trans le) wf le.n (fun z _ o hz => le.get z o hz)
theorem Fresh.perm3 {a b m : Nat} {l : Nat} {i j : List Nat} (x : Fresh a b (l :: i)) (y : Fresh a b j) (d : ∀ z ∈ i, z ∉ j) (hm : b ≤ m) : Fresh a (m + 1) (m :: (i ++ j)) := by
  refine ⟨List.nodup_cons.2 ⟨fun e => ?_, List.nodup_append.2 ⟨(List.nodup_cons.1 x.nd).2, y.nd, fun p hp q hq e => d p hp (e ▸ hq)⟩⟩, fun z hz => ?_⟩
  · rcases List.mem_append.1 e with e | e
    · have := (x.bd m (List.mem_cons_of_mem _ e)).2; omega
    · have := (y.bd m e).2; omega
  · rcases List.mem_cons.1 hz with rfl | hz
    · have := x.bd l List.mem_cons_self; omega
    · rcases List.mem_append.1 hz with e | e
      · have := x.bd z (List.mem_cons_of_mem _ e); omega
      · have := y.bd z e; omega
theorem SoB.app {s : Sh} {h0 h : AHeap} {a : Option Addr} {n c : Nat} {xs : List s.T} {ids js : List Nat} {x : s.T} {cs : List Value} (B : SoB s h0 h a n c xs ids) (rn : s.rn h x cs js) (fj : Fresh h0.n h.n js) (d : ∀ z ∈ ids, z ∉ js) :
    ∃ l h' ids', h.app (.slice a n c) [cs] s.cells = some (.slice (some ⟨l, 0, some s.cells⟩) (n + 1) 0, h') ∧ SoB s h0 h' (some ⟨l, 0, some s.cells⟩) (n + 1) 0 (xs ++ [x]) ids' ∧ h.n ≤ h'.n ∧ (∀ z ∈ ids', z = h.n ∨ z ∈ ids ∨ z ∈ js) ∧ ∀ z o, z ∉ ids → h.get z = some o → h'.get z = some o := by
  have nb := B.len
  have sz : (xs ++ [x]).length = n + 1 := by rw [List.length_append, nb]; rfl
  obtain ⟨rfl, rfl, rfl, rfl⟩ | ⟨l, rows, idss, rfl, hg, hr, hi, rfl, hc, hx⟩ := B.at_
  · have e0 : xs = [] := List.eq_nil_of_length_eq_zero nb
    subst e0
    have lp := AHeap.Le.push B.wf ⟨[cs], s.cells, true⟩
    refine ⟨h.n, h.push ⟨[cs], s.cells, true⟩, h.n :: [js].flatten, rfl, ⟨B.le.trans lp, B.wf.push _, B.wf0, sz, ?_, .inr ⟨h.n, [cs], [js], rfl, AHeap.get_push_eq, rfl, rfl, rfl, .inl rfl, ?_⟩⟩, lp.n, fun z hz => ?_, fun z o _ hz => lp.get z o hz⟩
    · refine ⟨List.nodup_cons.2 ⟨fun e => ?_, by simpa using fj.nd⟩, fun z hz => ?_⟩
      · have := (fj.bd h.n (by simpa using e)).2; omega
      · show h0.n ≤ z ∧ z < h.n + 1
        rcases List.mem_cons.1 hz with rfl | hz
        · have := B.le.n; omega
        · have := fj.bd z (by simpa using hz); omega
    · intro i y row q h1 h2 h3
      have : i = 0 := by have := (List.getElem?_eq_some_iff.1 h2).1; simp at this; omega
      subst this
      simp at h1 h2 h3
      subst h1; subst h2; subst h3
      exact rn.le lp
    · rcases List.mem_cons.1 hz with rfl | hz
      · exact .inl rfl
      · exact .inr (.inr (by simpa using hz))
  · have hro : h.rowsOf (.slice (some ⟨l, 0, some s.cells⟩) n c) = some rows := by rw [get_rowsOf hg (by omega), List.drop_zero, List.take_of_length_le (by omega)]
    have ndl := List.nodup_cons.1 B.fr.nd
    have hlj : l ∉ js := d l List.mem_cons_self
    have hlt : l < h.n := B.wf.lt hg
    have h0l : h0.n ≤ l := (B.fr.bd l List.mem_cons_self).1
    have key : ∀ (g : AHeap), g.wf → h0.Le g → g.n = h.n → (∀ z o, z ≠ l → h.get z = some o → g.get z = some o) → SoB s h0 (g.push ⟨rows ++ [cs], s.cells, true⟩) (some ⟨h.n, 0, some s.cells⟩) (n + 1) 0 (xs ++ [x]) (h.n :: (idss ++ [js]).flatten) ∧ ∀ z o, z ∉ l :: idss.flatten → h.get z = some o → (g.push ⟨rows ++ [cs], s.cells, true⟩).get z = some o := by
      intro g gw gl gn keep
      have lp := AHeap.Le.push gw ⟨rows ++ [cs], s.cells, true⟩
      have k2 : ∀ z o, z ≠ l → h.get z = some o → (g.push ⟨rows ++ [cs], s.cells, true⟩).get z = some o := fun z o hz ho => lp.get z o (keep z o hz ho)
      refine ⟨⟨gl.trans lp, gw.push _, B.wf0, sz, ?_, .inr ⟨h.n, rows ++ [cs], idss ++ [js], rfl, by rw [← gn]; exact AHeap.get_push_eq, by simp [hr], by simp [hi], rfl, .inl rfl, ?_⟩⟩, fun z o hz ho => k2 z o (fun e => hz (by simp [e])) ho⟩
      · show Fresh h0.n (g.n + 1) _
        rw [gn, List.flatten_append, List.flatten_singleton]
        exact B.fr.perm3 fj (fun z hz => d z (List.mem_cons_of_mem _ hz)) (Nat.le_refl _)
      · intro i y row q h1 h2 h3
        rcases getElem?_snoc h1 with ⟨hi1, h1⟩ | ⟨hi1, rfl⟩
        · rw [List.getElem?_append_left (by omega)] at h2 h3
          refine (hx i y row q h1 h2 h3).keep (fun z hz o => k2 z o (fun e => ?_))
          subst e
          exact ndl.1 (List.mem_flatten.2 ⟨q, List.mem_of_getElem? h3, hz⟩)
        · rw [List.getElem?_append_right (by omega), show i - rows.length = 0 by omega] at h2
          rw [List.getElem?_append_right (by omega), show i - idss.length = 0 by omega] at h3
          simp at h2 h3
          subst h2; subst h3
          exact rn.keep (fun z hz o => k2 z o (fun e => hlj (e ▸ hz)))
    have mem : ∀ z ∈ h.n :: (idss ++ [js]).flatten, z = h.n ∨ z ∈ l :: idss.flatten ∨ z ∈ js := fun z hz => by
      rw [List.flatten_append, List.flatten_singleton] at hz
      rcases List.mem_cons.1 hz with rfl | hz
      · exact .inl rfl
      · rcases List.mem_append.1 hz with e | e
        · exact .inr (.inl (List.mem_cons_of_mem _ e))
        · exact .inr (.inr e)
    unfold AHeap.app
    dsimp only
    rw [hro]
    dsimp only
    rw [beq_self_eq_true, cond_true]
    cases hcc : (c != 0 && decide (c ≤ n + [cs].length)) with
    | true =>
      rw [cond_true]
      obtain ⟨k1, k2⟩ := key h B.wf B.le rfl (fun z o _ hz => hz)
      exact ⟨h.n, _, _, rfl, k1, Nat.le_succ _, mem, k2⟩
    | false =>
      rw [cond_false, hg]
      dsimp only
      have hno : (c != 0 && decide (0 + n + [cs].length ≤ rows.length)) = false := by
        rw [Bool.and_eq_false_iff]; right; rw [decide_eq_false_iff_not, List.length_singleton]; omega
      rw [cond_true, hno, cond_false]
      obtain ⟨k1, k2⟩ := key (h.put l none) (B.wf.put hlt _) (B.le.put (B.wf0 l h0l) none) rfl (fun z o hz ho => by rw [AHeap.get_put_ne hz]; exact ho)
      exact ⟨h.n, _, _, rfl, k1, Nat.le_succ _, mem, k2⟩
end Go.Dat
end
section
namespace Go.Dat
open Go.Abs
def pNum (t : ByteArray) (a : Nat) : Option (Int × Nat) := (gn t a 0 0).map fun p => (unfoldN p.1, p.2)
def pWord (t : ByteArray) (a : Nat) : Option (ByteArray × Nat) := match pNum t a with
  | none => none
  | some (n, e) => if 0 ≤ n ∧ n ≤ 20000 ∧ n ≤ (t.size : Int) - e then some (t.extract e (e + n.toNat), e + n.toNat) else none
def pMany (k : Int) (t : ByteArray) (a : Nat) : Option (Nat × Nat) := match pNum t a with
  | none => none
  | some (n, e) => if 0 ≤ n ∧ n ≤ k then some (n.toNat, e) else none
structure Rd {α : Type} (p : Option (α × Nat)) (t : ByteArray) (b : Bool) (x : α) (a' : Nat) (b' : Bool) : Prop where
  bad : b = true → b' = true
  ok : b = false → b' = false → p = some (x, a')
  no : b = false → b' = true → p = none
  le : a' ≤ t.size
end Go.Dat
namespace Go.Proofs.YtpgfjadjhliohaaGreat
open Go.Abs Go.Dat
set_option maxRecDepth 100000
set_option maxHeartbeats 8000000
def o3 (a b c : Value) : AObj := ⟨[[a, b, c]], 3, true⟩
end Go.Proofs.YtpgfjadjhliohaaGreat
end
