/- Contracts: texts put together: strings.Join without a separator; bytes that are appended. -/
import Derived.Test.YtgcckeglmhbnmaaJ0
import Derived.Test.YtgcckeglmhbnmaaA31
import Derived.Test.YtgcckeglmhbnmaaF3
namespace Go.Dat
open Go.Abs
def cat : List ByteArray → ByteArray
  | [] => ⟨#[]⟩
  | x :: xs => x ++ cat xs
theorem ba_ext {a b : ByteArray} (h : a.data.toList = b.data.toList) : a = b := by
  cases a; cases b; congr 1; exact Array.ext' h
theorem ba_append_nil (a : ByteArray) : a ++ (⟨#[]⟩ : ByteArray) = a := ba_ext (by simp)
theorem ba_nil_append (a : ByteArray) : (⟨#[]⟩ : ByteArray) ++ a = a := ba_ext (by simp)
theorem ba_assoc (a b c : ByteArray) : a ++ b ++ c = a ++ (b ++ c) := ba_ext (by simp)
theorem cat_append : ∀ (xs ys : List ByteArray), cat (xs ++ ys) = cat xs ++ cat ys
  | [], ys => (ba_nil_append _).symm
  | x :: xs, ys => by show x ++ cat (xs ++ ys) = x ++ cat xs ++ cat ys; rw [cat_append xs ys, ba_assoc]
theorem cat_list : ∀ (xs : List ByteArray), (cat xs).data.toList = (xs.map (·.data.toList)).flatten
  | [] => rfl
  | x :: xs => by
    show (x ++ cat xs).data.toList = _
    rw [List.map_cons, List.flatten_cons, ← cat_list xs]; simp
theorem inter_nil : ∀ (l : List (List UInt8)), List.intercalate [] l = l.flatten
  | [] => rfl
  | [x] => by simp [List.intercalate]
  | x :: y :: r => by
    have := inter_nil (y :: r)
    simp only [List.intercalate, List.intersperse, List.flatten_cons, List.nil_append] at this ⊢
    rw [this]
/-- A row of bytes that is built. -/
structure BInv (h0 h : AHeap) (a : Option Addr) (n c : Nat) (b : ByteArray) : Prop where
  le : h0.Le h
  wf : h.wf
  wf0 : h0.wf
  nb : b.size = n
  at_ : (a = none ∧ n = 0 ∧ c = 0) ∨ ∃ l, a = some ⟨l, 0, some 1⟩ ∧ h0.n ≤ l ∧ h.get l = some ⟨bytesRows b, 1, true⟩ ∧ (c = 0 ∨ c = n + 1)
theorem bytesRows_len (b : ByteArray) : (bytesRows b).length = b.size := by
  unfold bytesRows
  rw [List.length_map]
  exact Array.length_toList
theorem bytesRows_app (a b : ByteArray) : bytesRows (a ++ b) = bytesRows a ++ bytesRows b := by
  unfold bytesRows; simp
theorem BInv.rows {h0 h : AHeap} {a : Option Addr} {n c : Nat} {b : ByteArray} (I : BInv h0 h a n c b) : h.rowsOf (.slice a n c) = some (bytesRows b) := by
  have hl := bytesRows_len b
  have nb := I.nb
  rcases I.at_ with ⟨rfl, rfl, rfl⟩ | ⟨l, rfl, _, hg, _⟩
  · have : bytesRows b = [] := List.eq_nil_of_length_eq_zero (by omega)
    rw [this]; rfl
  · rw [get_rowsOf hg (by omega), List.drop_zero, List.take_of_length_le (by omega)]
theorem BInv.app {h0 h : AHeap} {a : Option Addr} {n c : Nat} {b : ByteArray} (I : BInv h0 h a n c b) (d : ByteArray) :
    ∃ a' c' h', h.app (.slice a n c) (bytesRows d) 1 = some (.slice a' (n + d.size) c', h') ∧ BInv h0 h' a' (n + d.size) c' (b ++ d) := by
  have hd := bytesRows_len d
  have hb := bytesRows_len b
  have nb := I.nb
  have hr := I.rows
  have sz : (b ++ d).size = n + d.size := by rw [ByteArray.size_append]; omega
  unfold AHeap.app
  dsimp only
  cases hx : bytesRows d with
  | nil =>
    rw [hx] at hd
    have h0 : d.size = 0 := hd.symm
    have hd0 : d = ⟨#[]⟩ := ba_ext (by have : d.data.toList.length = 0 := by rw [Array.length_toList]; exact h0
                                       simpa using List.eq_nil_of_length_eq_zero this)
    subst hd0
    exact ⟨a, c, h, rfl, I.le, I.wf, I.wf0, by rw [ba_append_nil]; exact nb, by rw [ba_append_nil]; exact I.at_⟩
  | cons x xs =>
    rw [hx] at hd
    rcases I.at_ with ⟨rfl, rfl, rfl⟩ | ⟨l, rfl, hl, hg, hc⟩
    · have e0 : bytesRows b = [] := List.eq_nil_of_length_eq_zero (by omega)
      dsimp only
      refine ⟨_, _, _, by rw [hd, Nat.zero_add], I.le.trans (.push I.wf _), I.wf.push _, I.wf0, sz, .inr ⟨h.n, rfl, I.le.n, ?_, .inl rfl⟩⟩
      rw [AHeap.get_push_eq, bytesRows_app, e0, hx]; rfl
    · dsimp only
      rw [hr]
      dsimp only
      rw [beq_self_eq_true, cond_true]
      cases hcc : (c != 0 && decide (c ≤ n + (x :: xs).length)) with
      | true =>
        rw [cond_true]
        refine ⟨_, _, _, by rw [hd], I.le.trans (.push I.wf _), I.wf.push _, I.wf0, sz, .inr ⟨h.n, rfl, I.le.n, ?_, .inl rfl⟩⟩
        rw [AHeap.get_push_eq, bytesRows_app, hx]
      | false =>
        rw [cond_false, hg]
        dsimp only
        rw [cond_true]
        have w2 : (h.put l none).wf := I.wf.put (I.wf.lt hg) _
        refine ⟨_, _, _, by rw [hd], (I.le.put (I.wf0 l hl) none).trans (.push w2 _), w2.push _, I.wf0, sz, .inr ⟨h.n, rfl, I.le.n, ?_, .inl rfl⟩⟩
        show ((h.put l none).push _).get (h.put l none).n = _
        rw [AHeap.get_push_eq, bytesRows_app, hx]
end Go.Dat
namespace Go.Proofs.Ytgcckeglmhbnmaa
open Go.Abs Go.Dat
set_option maxRecDepth 100000
set_option maxHeartbeats 4000000

theorem join_spec (h : AHeap) (a : Option Addr) (n c : Nat) (xs : List Sh.str.T) (hx : Sl h Sh.str xs (.slice a n c)) (hn : n ≤ 140737488355328) (hs : (cat xs).size ≤ 140737488355328) :
    ACall Try.prog 84 [.slice a n c, .string ⟨#[]⟩] h (.string (cat xs)) h := by
  have en := hx.len
  refine acall_of_below fun L F R w0 w ARGS r ha => ?_
  obtain ⟨hsz, hv⟩ := ha
  obtain ⟨A0, A1, rfl⟩ : ∃ A0 A1, ARGS = #[A0, A1] := by
    have : ARGS.size = 2 := hsz.symm
    match ARGS, this with
    | ⟨[x, y]⟩, _ => exact ⟨x, y, rfl⟩
  have v0 := hv 0 _ _ rfl rfl
  have v1 := hv 1 _ _ rfl rfl
  obtain rfl : A1 = .string ⟨#[]⟩ := by cases v1; rfl
  have catl := cat_list xs
  have hj : Lib.join (xs.map (·.data.toList)) (⟨#[]⟩ : ByteArray).data.toList = (cat xs).data.toList := by
    rw [catl]; exact inter_nil _
  rcases Nat.eq_zero_or_pos n with h0 | hp
  · have xs0 : xs = [] := List.eq_nil_of_length_eq_zero (by omega)
    subst xs0
    subst h0
    obtain ⟨A, C, rfl⟩ : ∃ A C, A0 = .slice A 0 C := by cases v0 <;> exact ⟨_, _, rfl⟩
    refine (Try.strings_Join_none A C ⟨#[]⟩ w).mono ?_
    rintro e W ⟨he, rfl⟩
    exact ⟨_, he, .string _, .refl _ _⟩
  · obtain ⟨hsa, rows, hrows⟩ := hx.row
    rcases hsa with ⟨_, h0, _⟩ | ⟨l, rr, rfl⟩
    · omega
    have key : ∀ (i : Nat) (x : ByteArray), xs[i]? = some x → h.ld l (rr + i) 0 1 = some [.string x] := fun i x hi => by
      obtain ⟨l', r', row, e, _, hrd, hld⟩ := hx.elem hi
      cases e
      rw [show row = [.string x] from hrd] at hld
      exact hld
    cases v0 with
    | slice hL he hC hA room hcc =>
      rename_i C s A
      have hA : A = ⟨s.blk, s.base + rr * 1, none⟩ := hA.resolve_left (by omega)
      subst hA
      have cellAt : ∀ (j : Nat) (x : ByteArray), xs[j]? = some x → w.cell? ⟨s.blk, s.base + rr * 1 + j, none⟩ = some (.string x) := fun j x hj => by
        have := key j x hj
        unfold AHeap.ld at this
        cases ho : h.get l with
        | none => rw [ho] at this; cases this
        | some o =>
          rw [ho] at this
          dsimp only at this
          cases hrow : o.rows[rr + j]? with
          | none => rw [hrow] at this; cases this
          | some row =>
            rw [hrow] at this
            dsimp only at this
            have ob := r.obj l o s ho hL
            have hl1 := ob.len _ _ hrow
            have es : s.esz = 1 := he
            have hl1' : row.length = 1 := by rw [hl1, ← ob.esz, es]
            match row, hl1' with
            | [v], _ =>
              simp at this
              subst this
              obtain ⟨V, hV, hvr⟩ := ob.cell _ _ hrow 0 _ rfl
              rw [es] at hV
              cases hvr
              rw [← hV]
              congr 2
              omega
      have hblk : s.blk < w.heap.size := by
        obtain ⟨x, hx0⟩ : ∃ x : ByteArray, xs[0]? = some x := ⟨_, List.getElem?_eq_getElem (by omega)⟩
        have := key 0 x hx0
        unfold AHeap.ld at this
        cases ho : h.get l with
        | none => rw [ho] at this; cases this
        | some o => exact (r.obj l o s ho hL).lt
      subst en
      refine (Try.strings_Join s.blk (s.base + rr * 1) C xs ⟨#[]⟩ w cellAt hblk hn hC ?_).mono ?_
      · rw [hj, Array.length_toList]; exact hs
      · rintro e W ⟨he, hb⟩
        refine ⟨_, he, ?_, hb⟩
        rw [hj]
        exact .string _
end Go.Proofs.Ytgcckeglmhbnmaa
