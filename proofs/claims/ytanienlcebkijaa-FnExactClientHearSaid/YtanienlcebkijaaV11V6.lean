/- What a client hears: the bounds. -/
import Derived.Test.YtanienlcebkijaaV11V5
import Derived.Test.YtanienlcebkijaaV11N2
import Derived.Test.YtanienlcebkijaaV11E1
namespace Go.Dat
open Go.Abs
theorem outX_ok (c : Int) (hc : -9223372036854775808 ≤ c ∧ c ≤ 9223372036854775807) : clientOutSh.ok (outX (0, 0, false, ⟨#[]⟩, c)) := ⟨⟨ok_zero, ok_zero, trivial, ok_nil, Nat.zero_le _⟩, Nat.zero_le _, hc⟩
theorem clientHearM_cases (x : clientSh.T) (f : Int) (r : replySh.T) : (∃ c : Int, 1 ≤ c ∧ c ≤ 10 ∧ clientHearM x f r = outX (0, 0, false, ⟨#[]⟩, c)) ∨
    clientHearM x f r = ((x.1, x.2.1, false, [], r.2.2), ⟨#[]⟩, 0) ∨ clientHearM x f r = ((x.1, x.2.1, true, ins x.2.2.2.1 (kOf x.2.2.2.1 f) (f, r.2.2), ⟨#[]⟩), ⟨#[]⟩, 0) := by
  unfold clientHearM
  split
  · exact .inl ⟨1, by omega, by omega, rfl⟩
  · split
    · exact .inl ⟨10, by omega, by omega, rfl⟩
    · split
      · exact .inl ⟨7, by omega, by omega, rfl⟩
      · split
        · exact .inr (.inl rfl)
        · exact .inr (.inr rfl)
theorem kOf_le (hs : List heardSh.T) (y : Int) : kOf hs y ≤ hs.length := (List.takeWhile_sublist _).length_le
theorem clientHearM_ok (x : clientSh.T) (ok : clientSh.ok x) (sm : clientSh.small x) (f : Int) (bf : -9223372036854775808 ≤ f ∧ f ≤ 9223372036854775807) (r : replySh.T) (okr : replySh.ok r) (_ : replySh.small r) : clientOutSh.ok (clientHearM x f r) := by
  rcases clientHearM_cases x f r with ⟨c, h1, h2, e⟩ | e | e
  · rw [e]; exact outX_ok c (by omega)
  · rw [e]; exact ⟨⟨ok.1, ok.2.1, trivial, ok_nil, okr.2.2⟩, Nat.zero_le _, ok_zero⟩
  · rw [e]
    have hl : List.length (α := heardSh.T) x.2.2.2.1 ≤ 1048576 := sm.2.2.2.1.1
    have hk := kOf_le x.2.2.2.1 f
    refine ⟨⟨ok.1, ok.2.1, trivial, ⟨?_, fun y hy => ?_⟩, Nat.zero_le _⟩, Nat.zero_le _, ok_zero⟩
    · have : (ins (α := heardSh.T) x.2.2.2.1 (kOf x.2.2.2.1 f) (f, r.2.2)).length = List.length (α := heardSh.T) x.2.2.2.1 + 1 := ins_length hk
      show (ins (α := heardSh.T) x.2.2.2.1 (kOf x.2.2.2.1 f) (f, r.2.2)).length ≤ _
      omega
    · rcases List.mem_append.1 hy with hy | hy
      · exact ok.2.2.2.1.2 y (List.mem_of_mem_take hy)
      · rcases List.mem_cons.1 hy with hy | hy
        · rw [hy]; exact ⟨bf, okr.2.2⟩
        · exact ok.2.2.2.1.2 y (List.mem_of_mem_drop hy)
theorem clientHearM_cn (x : clientSh.T) (_ : clientSh.ok x) (sm : clientSh.small x) (_ : (clientSh.cv x : Int) ≤ 200000000) (f : Int) (_ : -9223372036854775808 ≤ f ∧ f ≤ 9223372036854775807) (r : replySh.T) (_ : replySh.ok r) (_ : replySh.small r) : (clientOutSh.cv (clientHearM x f r) : Int) ≤ 900000000000 := by
  have key : ∀ hs : List heardSh.T, hs.length ≤ 1048577 → (Sh.sl heardSh).cn hs ≤ 1048577 * 2 := fun hs h => Sh.cn_sl h (fun _ _ => Nat.le_refl _)
  rcases clientHearM_cases x f r with ⟨c, h1, h2, e⟩ | e | e
  · rw [e]; show ((0 : Nat) : Int) ≤ _; omega
  · rw [e]; show ((0 : Nat) : Int) ≤ _; omega
  · rw [e]
    have hl : List.length (α := heardSh.T) x.2.2.2.1 ≤ 1048576 := sm.2.2.2.1.1
    have hk := kOf_le x.2.2.2.1 f
    have h1 : (ins (α := heardSh.T) x.2.2.2.1 (kOf x.2.2.2.1 f) (f, r.2.2)).length = List.length (α := heardSh.T) x.2.2.2.1 + 1 := ins_length hk
    have := key (ins (α := heardSh.T) x.2.2.2.1 (kOf x.2.2.2.1 f) (f, r.2.2)) (by omega)
    show ((0 + (0 + (0 + ((Sh.sl heardSh).cn (ins (α := heardSh.T) x.2.2.2.1 (kOf x.2.2.2.1 f) (f, r.2.2)) + 0))) + 0 : Nat) : Int) ≤ _
    omega
end Go.Dat
