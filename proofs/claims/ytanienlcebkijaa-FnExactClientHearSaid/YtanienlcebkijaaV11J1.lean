/- Contracts: texts put together; bytes that are appended. -/
import Derived.Test.YtanienlcebkijaaV11A31
import Derived.Test.YtanienlcebkijaaV11F3
namespace Go.Dat
open Go.Abs
def cat : List ByteArray → ByteArray
  | [] => ⟨#[]⟩
  | x :: xs => x ++ cat xs
theorem ba_ext {a b : ByteArray} (h : a.data.toList = b.data.toList) : a = b := by
  cases a; cases b; congr 1; exact Array.ext' h
theorem ba_append_nil (a : ByteArray) : a ++ (⟨#[]⟩ : ByteArray) = a := ba_ext (by simp)
theorem ba_nil_append (a : ByteArray) : (⟨#[]⟩ : ByteArray) ++ a = a := ba_ext (by simp)
theorem ba_assoc (a b c : ByteArray) : a ++ b ++ c = a ++ (b ++ c) := ba_ext (by simp)
theorem cat_append : ∀ (xs ys : List ByteArray), cat (xs ++ ys) = cat xs ++ cat ys
  | [], ys => (ba_nil_append _).symm
  | x :: xs, ys => by show x ++ cat (xs ++ ys) = x ++ cat xs ++ cat ys; rw [cat_append xs ys, ba_assoc]
structure BInv (h0 h : AHeap) (a : Option Addr) (n c : Nat) (b : ByteArray) : Prop where
  le : h0.Le h
  wf : h.wf
  wf0 : h0.wf
  nb : b.size = n
  at_ : (a = none ∧ n = 0 ∧ c = 0) ∨ ∃ l, a = some ⟨l, 0, some 1⟩ ∧ h0.n ≤ l ∧ h.get l = some ⟨bytesRows b, 1, true⟩ ∧ (c = 0 ∨ c = n + 1)
theorem bytesRows_len (b : ByteArray) : (bytesRows b).length = b.size := by
  unfold bytesRows
  rw [List.length_map]
  exact Array.length_toList
theorem bytesRows_app (a b : ByteArray) : bytesRows (a ++ b) = bytesRows a ++ bytesRows b := by
  unfold bytesRows; simp
theorem BInv.rows {h0 h : AHeap} {a : Option Addr} {n c : Nat} {b : ByteArray} (I : BInv h0 h a n c b) : h.rowsOf (.slice a n c) = some (bytesRows b) := by
  have hl := bytesRows_len b
  have nb := I.nb
  rcases I.at_ with ⟨rfl, rfl, rfl⟩ | ⟨l, rfl, _, hg, _⟩
  · have : bytesRows b = [] := List.eq_nil_of_length_eq_zero (by omega)
    rw [this]; rfl
  · rw [get_rowsOf hg (by omega), List.drop_zero, List.take_of_length_le (by omega)]
theorem BInv.app {h0 h : AHeap} {a : Option Addr} {n c : Nat} {b : ByteArray} (I : BInv h0 h a n c b) (d : ByteArray) :
    ∃ a' c' h', h.app (.slice a n c) (bytesRows d) 1 = some (.slice a' (n + d.size) c', h') ∧ BInv h0 h' a' (n + d.size) c' (b ++ d) := by
  have hd := bytesRows_len d
  have hb := bytesRows_len b
  have nb := I.nb
  have hr := I.rows
  have sz : (b ++ d).size = n + d.size := by rw [ByteArray.size_append]; omega
  unfold AHeap.app
  dsimp only
  cases hx : bytesRows d with
  | nil =>
    rw [hx] at hd
    have h0 : d.size = 0 := hd.symm
    have hd0 : d = ⟨#[]⟩ := ba_ext (by have : d.data.toList.length = 0 := by rw [Array.length_toList]; exact h0
                                       simpa using List.eq_nil_of_length_eq_zero this)
    subst hd0
    exact ⟨a, c, h, rfl, I.le, I.wf, I.wf0, by rw [ba_append_nil]; exact nb, by rw [ba_append_nil]; exact I.at_⟩
  | cons x xs =>
    rw [hx] at hd
    rcases I.at_ with ⟨rfl, rfl, rfl⟩ | ⟨l, rfl, hl, hg, hc⟩
    · have e0 : bytesRows b = [] := List.eq_nil_of_length_eq_zero (by omega)
      dsimp only
      refine ⟨_, _, _, by rw [hd, Nat.zero_add], I.le.trans (.push I.wf _), I.wf.push _, I.wf0, sz, .inr ⟨h.n, rfl, I.le.n, ?_, .inl rfl⟩⟩
      rw [AHeap.get_push_eq, bytesRows_app, e0, hx]; rfl
    · dsimp only
      rw [hr]
      dsimp only
      rw [beq_self_eq_true, cond_true]
      cases hcc : (c != 0 && decide (c ≤ n + (x :: xs).length)) with
      | true =>
        rw [cond_true]
        refine ⟨_, _, _, by rw [hd], I.le.trans (.push I.wf _), I.wf.push _, I.wf0, sz, .inr ⟨h.n, rfl, I.le.n, ?_, .inl rfl⟩⟩
        rw [AHeap.get_push_eq, bytesRows_app, hx]
      | false =>
        rw [cond_false, hg]
        dsimp only
        have hno : (c != 0 && decide (0 + n + (x :: xs).length ≤ (bytesRows b).length)) = false := by
          rw [Bool.and_eq_false_iff]; right; rw [decide_eq_false_iff_not, hb]; simp only [List.length_cons]; omega
        rw [cond_true, hno, cond_false]
        have w2 : (h.put l none).wf := I.wf.put (I.wf.lt hg) _
        refine ⟨_, _, _, by rw [hd], (I.le.put (I.wf0 l hl) none).trans (.push w2 _), w2.push _, I.wf0, sz, .inr ⟨h.n, rfl, I.le.n, ?_, .inl rfl⟩⟩
        show ((h.put l none).push _).get (h.put l none).n = _
        rw [AHeap.get_push_eq, bytesRows_app, hx]
end Go.Dat
