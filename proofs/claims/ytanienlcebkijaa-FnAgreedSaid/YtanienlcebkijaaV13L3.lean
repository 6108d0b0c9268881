/- Y1, L1, L2, A30, A31, G1, C9, F1, F2, F3, J1, L3. -/
import Derived.Test.YtanienlcebkijaaV13C7
import Derived.Test.YtanienlcebkijaaV13C4
import Derived.Carry
section
namespace Go.Dat
open Go.Abs
def cntB (os : List Opn) (x : ByteArray) : Nat → Nat
  | 0 => 0
  | m + 1 => cntB os x m + (if (opAt os m).2 = x then 1 else 0)
def mostB (os : List Opn) : Nat → Nat
  | 0 => 0
  | i + 1 => if mostB os i < cntB os (opAt os i).2 os.length then cntB os (opAt os i).2 os.length else mostB os i
theorem cnt_le (os : List Opn) (x : ByteArray) : ∀ m, cntB os x m ≤ m
  | 0 => Nat.le_refl _
  | m + 1 => by
    have := cnt_le os x m
    rw [cntB]; split <;> omega
theorem cnt_two (os : List Opn) {x y : ByteArray} (h : x ≠ y) : ∀ m, cntB os x m + cntB os y m ≤ m
  | 0 => Nat.le_refl _
  | m + 1 => by
    have := cnt_two os h m
    rw [cntB, cntB]
    by_cases e1 : (opAt os m).2 = x
    · rw [if_pos e1, if_neg (fun e2 => h (e1.symm.trans e2))]; omega
    · rw [if_neg e1]; split <;> omega
theorem cnt_one {os : List Opn} {x : ByteArray} {k : Nat} (hk : (opAt os k).2 = x) : ∀ m, k < m → 1 ≤ cntB os x m
  | 0, h => absurd h (Nat.not_lt_zero _)
  | m + 1, h => by
    rw [cntB]
    by_cases e : k = m
    · subst e; rw [if_pos hk]; omega
    · have := cnt_one hk m (by omega); omega
theorem cnt_pair {os : List Opn} {x : ByteArray} {k i : Nat} (hk : (opAt os k).2 = x) (hi : (opAt os i).2 = x) (hki : k < i) : ∀ m, i < m → 2 ≤ cntB os x m
  | 0, h => absurd h (Nat.not_lt_zero _)
  | m + 1, h => by
    rw [cntB]
    by_cases e : i = m
    · subst e; rw [if_pos hi]; have := cnt_one hk i hki; omega
    · have := cnt_pair hk hi hki m (by omega); omega
theorem most_at (os : List Opn) : ∀ m, mostB os m = 0 ∨ ∃ i, i < m ∧ mostB os m = cntB os (opAt os i).2 os.length
  | 0 => .inl rfl
  | m + 1 => by
    rw [mostB]
    split
    · exact .inr ⟨m, Nat.lt_succ_self _, rfl⟩
    · rcases most_at os m with h | ⟨i, hi, h⟩
      · exact .inl h
      · exact .inr ⟨i, by omega, h⟩
theorem inn_at (os : List Opn) (i : Nat) : ∀ (n k : Nat) (b : ByteArray), i - k = n → innB os i k b = b ∨ ∃ j, j < i ∧ (opAt os j).2 = (opAt os i).2 ∧ innB os i k b = (opAt os i).2 := by
  intro n
  induction n with
  | zero => intro k b h; rw [innB, if_neg (by omega)]; exact .inl rfl
  | succ n ih =>
    intro k b h
    rw [innB, if_pos (by omega)]
    rcases ih (k + 1) (updB os i k b) (by omega) with e | ⟨j, h1, h2, h3⟩
    · rw [e]
      unfold updB
      split
      · rename_i hc; exact .inr ⟨k, by omega, hc.1, rfl⟩
      · exact .inl rfl
    · exact .inr ⟨j, h1, h2, h3⟩
theorem ag_at (os : List Opn) : ∀ (n i : Nat) (b : ByteArray), os.length - i = n → agB os i b = ⟨#[]⟩ ∨ agB os i b = b ∨ ∃ j k, k < j ∧ j < os.length ∧ (opAt os k).2 = agB os i b ∧ (opAt os j).2 = agB os i b := by
  intro n
  induction n with
  | zero => intro i b h; rw [agB, if_neg (by omega)]; exact .inr (.inl rfl)
  | succ n ih =>
    intro i b h
    rw [agB, if_pos (by omega)]
    split
    · exact .inl rfl
    · rcases ih (i + 1) (innB os i 0 b) (by omega) with e | e | e
      · exact .inl e
      · rw [e]
        rcases inn_at os i i 0 b rfl with e2 | ⟨j, h1, h2, h3⟩
        · rw [e2]; exact .inr (.inl rfl)
        · rw [h3]; exact .inr (.inr ⟨i, j, h1, by omega, h2, rfl⟩)
      · exact .inr (.inr e)
theorem agreed_law {os : List Opn} (h : agreedB os ≠ ⟨#[]⟩) : 2 ≤ cntB os (agreedB os) os.length ∧ (mostB os os.length < 3 ∨ cntB os (agreedB os) os.length = mostB os os.length) := by
  have h4 : os.length ≤ 4 := by
    by_cases e : os.length > 4
    · exact absurd (by unfold agreedB; rw [if_pos e]) h
    · omega
  have ea : agreedB os = agB os 0 ⟨#[]⟩ := by unfold agreedB; rw [if_neg (by omega)]
  have h2 : 2 ≤ cntB os (agreedB os) os.length := by
    rw [ea] at h ⊢
    rcases ag_at os os.length 0 ⟨#[]⟩ rfl with e | e | ⟨j, k, hk, hj, e1, e2⟩
    · exact absurd e h
    · exact absurd e h
    · exact cnt_pair e1 e2 hk _ hj
  refine ⟨h2, ?_⟩
  rcases most_at os os.length with e | ⟨i, hi, e⟩
  · exact .inl (by omega)
  · by_cases e3 : (opAt os i).2 = agreedB os
    · rw [e3] at e; exact .inr e.symm
    · have := cnt_two os e3 os.length; exact .inl (by omega)
end Go.Dat
end
section
namespace Go.Dat
open Go.Abs
def srcO (a : Option Addr) (n c : Nat) (at_ mix size : Int) : AObj := ⟨[[.slice a n c, .int .i64 at_, .int .u64 mix, .int .i64 size]], 4, true⟩
structure Src (h : AHeap) (l : Nat) (bs : List Sh.byte.T) (a : Option Addr) (n c : Nat) : Prop where
  wf : h.wf
  bytes : Sl h Sh.byte bs (.slice a n c)
  ok : (Sh.sl Sh.byte).ok bs
  obj : ∃ at_ mix size : Int, h.get l = some (srcO a n c at_ mix size) ∧ (0 ≤ at_ ∧ at_ ≤ n) ∧ (0 ≤ mix ∧ mix < 18446744073709551616) ∧ (0 ≤ size ∧ size ≤ 12)
theorem src0 {g : AHeap} {l : Nat} {a : Option Addr} {n c : Nat} {at_ mix size : Int} (hg : g.get l = some (srcO a n c at_ mix size)) : g.ld l 0 0 1 = some [.slice a n c] := by unfold AHeap.ld; rw [hg]; rfl
theorem src1 {g : AHeap} {l : Nat} {a : Option Addr} {n c : Nat} {at_ mix size : Int} (hg : g.get l = some (srcO a n c at_ mix size)) : g.ld l 0 1 1 = some [.int .i64 at_] := by unfold AHeap.ld; rw [hg]; rfl
theorem src2 {g : AHeap} {l : Nat} {a : Option Addr} {n c : Nat} {at_ mix size : Int} (hg : g.get l = some (srcO a n c at_ mix size)) : g.ld l 0 2 1 = some [.int .u64 mix] := by unfold AHeap.ld; rw [hg]; rfl
theorem srcw1 {g : AHeap} {l : Nat} {a : Option Addr} {n c : Nat} {at_ mix size : Int} (v : Int) (hg : g.get l = some (srcO a n c at_ mix size)) : g.wr l 0 1 [.int .i64 v] = some (g.put l (some (srcO a n c v mix size))) := by unfold AHeap.wr; rw [hg]; rfl
theorem srcw2 {g : AHeap} {l : Nat} {a : Option Addr} {n c : Nat} {at_ mix size : Int} (v : Int) (hg : g.get l = some (srcO a n c at_ mix size)) : g.wr l 0 2 [.int .u64 v] = some (g.put l (some (srcO a n c at_ v size))) := by unfold AHeap.wr; rw [hg]; rfl
theorem put_put {g : AHeap} {l : Nat} {x y : Option AObj} : (g.put l x).put l y = g.put l y := by
  unfold AHeap.put
  congr 1
  funext z
  dsimp only
  split <;> rfl
theorem u64_wrap_bd (n : Int) : 0 ≤ IntKind.u64.wrap n ∧ IntKind.u64.wrap n < 18446744073709551616 := by
  have e : IntKind.u64.wrap n = if (false && decide (n % 18446744073709551616 ≥ 9223372036854775808)) = true then n % 18446744073709551616 - 18446744073709551616 else n % 18446744073709551616 := rfl
  rw [e]; simp; omega
theorem draw_bd {x most : Int} (hm : 1 < most ∧ most ≤ 9223372036854775807) : 0 ≤ IntKind.i64.wrap (Int.tmod (IntKind.u64.wrap x) (IntKind.u64.wrap most)) ∧ IntKind.i64.wrap (Int.tmod (IntKind.u64.wrap x) (IntKind.u64.wrap most)) < most := by
  have e : IntKind.u64.wrap most = most := by
    have e : IntKind.u64.wrap most = if (false && decide (most % 18446744073709551616 ≥ 9223372036854775808)) = true then most % 18446744073709551616 - 18446744073709551616 else most % 18446744073709551616 := rfl
    rw [e]; simp; omega
  have h1 := (u64_wrap_bd x).1
  have h2 : Int.tmod (IntKind.u64.wrap x) most = IntKind.u64.wrap x % most := Int.tmod_eq_emod_of_nonneg h1
  have h3 := Int.emod_nonneg (IntKind.u64.wrap x) (show most ≠ 0 by omega)
  have h4 := Int.emod_lt_of_pos (IntKind.u64.wrap x) (show 0 < most by omega)
  rw [e, h2, wrap_i64 (by omega)]
  exact ⟨h3, h4⟩
end Go.Dat
namespace Go.Proofs.Ytanienlcebkijaa
open Go.Abs Go.Dat
set_option maxRecDepth 100000
set_option maxHeartbeats 8000000
theorem srcN_spec (h : AHeap) (l : Nat) (bs : List Sh.byte.T) (a : Option Addr) (n c : Nat) (s : Src h l bs a n c) (most : Int) (hm : -9223372036854775808 ≤ most ∧ most ≤ 9223372036854775807) :
    ∃ v h', ACall Try.prog 69 [.pointer (some ⟨l, 0, some 0⟩), .int .i64 most] h v h' ∧ ∃ r : Int, v = .int .i64 r ∧ 0 ≤ r ∧ (most ≤ 1 → r = 0) ∧ (1 < most → r < most) ∧ But l h h' ∧ (∃ at_ mix size : Int, h'.get l = some (srcO a n c at_ mix size) ∧ (0 ≤ at_ ∧ at_ ≤ n) ∧ (0 ≤ mix ∧ mix < 18446744073709551616) ∧ (0 ≤ size ∧ size ≤ 12)) ∧ h'.wf := by
  obtain ⟨at_, mix, size, hg, h1, h2, h3⟩ := s.obj
  refine acall_q fun Q HQ => ?_
  refine acall_vc (fun _ => false) (fun r => match r with | 4 => [(0, 0, []), (1, 0, []), (2, 0, []), (4, 0, []), (5, 0, []), (6, 0, []), (3, 1, []), (7, 1, []), (8, 0, []), (9, 0, [])] | 5 => [(0, 0, []), (1, 0, []), (2, 0, []), (4, 0, []), (5, 0, []), (6, 0, []), (3, 1, []), (7, 1, []), (8, 0, []), (9, 1, []), (10, 0, []), (11, 0, [])] | 7 => [(0, 0, []), (1, 0, []), (2, 0, []), (3, 0, []), (5, 0, []), (6, 0, []), (7, 0, []), (4, 1, []), (8, 1, []), (9, 0, []), (10, 0, []), (11, 0, []), (12, 0, []), (13, 3, [])] | 8 => [(0, 0, []), (1, 0, []), (2, 0, []), (3, 0, []), (5, 0, []), (6, 0, []), (7, 0, []), (4, 1, []), (8, 1, []), (9, 0, []), (10, 0, []), (11, 0, []), (12, 0, []), (13, 3, [])] | 9 => [(0, 0, []), (1, 0, []), (2, 0, []), (3, 0, []), (5, 0, []), (6, 0, []), (7, 0, []), (4, 1, []), (8, 1, []), (9, 0, []), (10, 0, []), (11, 0, []), (12, 0, []), (13, 3, [])] | _ => []) (fun _ => .none) mixed Try.func69 rfl rfl rfl (Nat.le_of_ble_eq_true rfl) (by refine vc_mp (by kernel_rfl : (True ∧ (True ∧ (True ∧ True) ∧ True) ∧ True ∧ (True ∧ (True ∧ True) ∧ True) ∧ True ∧ True ∧ True ∧ True ∧ True) = _) ?_; simp only [and_self]) ?_
  have hne : 1 < most → IntKind.u64.wrap most ≠ 0 := fun hlt => by
    have e : IntKind.u64.wrap most = if (false && decide (most % 18446744073709551616 ≥ 9223372036854775808)) = true then most % 18446744073709551616 - 18446744073709551616 else most % 18446744073709551616 := rfl
    rw [e]; simp; omega
  have hll := s.wf.lt hg
  have fin : ∀ (x at2 mix2 : Int), 1 < most → (0 ≤ at2 ∧ at2 ≤ n) → (0 ≤ mix2 ∧ mix2 < 18446744073709551616) → Q (.int .i64 (IntKind.i64.wrap (Int.tmod (IntKind.u64.wrap x) (IntKind.u64.wrap most)))) (h.put l (some (srcO a n c at2 mix2 size))) := fun x at2 mix2 hlt ha hm2 => by
    have hd := draw_bd (x := x) (most := most) ⟨hlt, hm.2⟩
    exact HQ _ _ ⟨_, rfl, hd.1, fun h => by omega, fun _ => hd.2, ⟨Nat.le_refl _, fun z o hz ho => by show (h.put l _).get z = some o; rw [AHeap.get_put_ne hz]; exact ho⟩, ⟨at2, mix2, size, AHeap.get_put_eq, ha, hm2, h3⟩, s.wf.put hll _⟩
  refine vc_mp (by kernel_rfl : (Abs.bs (decide (most ≤ (1 : Int))) (Q (Value.int IntKind.i64 (0 : Int)) h) (∃ (x : Int), AHeap.ld h l (0 : Nat) (1 : Nat) (1 : Nat) = some [Value.int IntKind.i64 x] ∧ ∃ (a : Option Addr), ∃ (n : Nat), ∃ (c : Nat), AHeap.ld h l (0 : Nat) (0 : Nat) (1 : Nat) = some [Value.slice a n c] ∧ Abs.bs (decide (x < (↑n : Int))) (∃ (a : Option Addr), ∃ (n : Nat), ∃ (c : Nat), AHeap.ld h l (0 : Nat) (0 : Nat) (1 : Nat) = some [Value.slice a n c] ∧ ∃ (x : Int), AHeap.ld h l (0 : Nat) (1 : Nat) (1 : Nat) = some [Value.int IntKind.i64 x] ∧ ∃ (l_1 : Nat), ∃ (r : Nat), a = some (Addr.mk l_1 r (some (1 : Nat))) ∧ (0 : Int) ≤ x ∧ x < (↑n : Int) ∧ ∃ (x_1 : Int), AHeap.ld h l_1 (r + Int.toNat x) (0 : Nat) (1 : Nat) = some [Value.int IntKind.u8 x_1] ∧ ∃ (x : Int), AHeap.ld h l (0 : Nat) (1 : Nat) (1 : Nat) = some [Value.int IntKind.i64 x] ∧ ∃ (h' : AHeap), AHeap.wr h l (0 : Nat) (1 : Nat) [Value.int IntKind.i64 (IntKind.wrap IntKind.i64 (x + (1 : Int)))] = some h' ∧ ∃ (x : Int), AHeap.ld h' l (0 : Nat) (2 : Nat) (1 : Nat) = some [Value.int IntKind.u64 x] ∧ ∃ (x_2 : Int), AHeap.ld h' l (0 : Nat) (2 : Nat) (1 : Nat) = some [Value.int IntKind.u64 x_2] ∧ (0 : Int) ≤ (13 : Int) ∧ ∃ (h'_1 : AHeap), AHeap.wr h' l (0 : Nat) (2 : Nat) [Value.int IntKind.u64 (IntKind.wrap IntKind.u64 (↑(BitVec.toNat (BitVec.ofInt (IntKind.bits IntKind.u64) x ^^^ BitVec.ofInt (IntKind.bits IntKind.u64) (IntKind.wrap IntKind.u64 (x_2 * (2 : Int) ^ min (Int.toNat (13 : Int)) (IntKind.bits IntKind.u64))))) : Int))] = some h'_1 ∧ ∃ (x : Int), AHeap.ld h'_1 l (0 : Nat) (2 : Nat) (1 : Nat) = some [Value.int IntKind.u64 x] ∧ ∃ (x_3 : Int), AHeap.ld h'_1 l (0 : Nat) (2 : Nat) (1 : Nat) = some [Value.int IntKind.u64 x_3] ∧ (0 : Int) ≤ (7 : Int) ∧ ∃ (h' : AHeap), AHeap.wr h'_1 l (0 : Nat) (2 : Nat) [Value.int IntKind.u64 (IntKind.wrap IntKind.u64 (↑(BitVec.toNat (BitVec.ofInt (IntKind.bits IntKind.u64) x ^^^ BitVec.ofInt (IntKind.bits IntKind.u64) (Int.fdiv x_3 ((2 : Int) ^ min (Int.toNat (7 : Int)) (IntKind.bits IntKind.u64))))) : Int))] = some h' ∧ ∃ (x : Int), AHeap.ld h' l (0 : Nat) (2 : Nat) (1 : Nat) = some [Value.int IntKind.u64 x] ∧ ∃ (x_4 : Int), AHeap.ld h' l (0 : Nat) (2 : Nat) (1 : Nat) = some [Value.int IntKind.u64 x_4] ∧ (0 : Int) ≤ (17 : Int) ∧ ∃ (h'_2 : AHeap), AHeap.wr h' l (0 : Nat) (2 : Nat) [Value.int IntKind.u64 (IntKind.wrap IntKind.u64 (↑(BitVec.toNat (BitVec.ofInt (IntKind.bits IntKind.u64) x ^^^ BitVec.ofInt (IntKind.bits IntKind.u64) (IntKind.wrap IntKind.u64 (x_4 * (2 : Int) ^ min (Int.toNat (17 : Int)) (IntKind.bits IntKind.u64))))) : Int))] = some h'_2 ∧ ∃ (x : Int), AHeap.ld h'_2 l (0 : Nat) (2 : Nat) (1 : Nat) = some [Value.int IntKind.u64 x] ∧ (0 : Int) ≤ (20 : Int) ∧ IntKind.wrap IntKind.u64 most ≠ (0 : Int) ∧ Q (Value.int IntKind.i64 (IntKind.wrap IntKind.i64 (Int.tmod (IntKind.wrap IntKind.u64 (IntKind.wrap IntKind.u64 x_1 + Int.fdiv x ((2 : Int) ^ min (Int.toNat (20 : Int)) (IntKind.bits IntKind.u64)))) (IntKind.wrap IntKind.u64 most)))) h'_2) (∃ (x : Int), AHeap.ld h l (0 : Nat) (2 : Nat) (1 : Nat) = some [Value.int IntKind.u64 x] ∧ ∃ (x_1 : Int), AHeap.ld h l (0 : Nat) (2 : Nat) (1 : Nat) = some [Value.int IntKind.u64 x_1] ∧ (0 : Int) ≤ (13 : Int) ∧ ∃ (h' : AHeap), AHeap.wr h l (0 : Nat) (2 : Nat) [Value.int IntKind.u64 (IntKind.wrap IntKind.u64 (↑(BitVec.toNat (BitVec.ofInt (IntKind.bits IntKind.u64) x ^^^ BitVec.ofInt (IntKind.bits IntKind.u64) (IntKind.wrap IntKind.u64 (x_1 * (2 : Int) ^ min (Int.toNat (13 : Int)) (IntKind.bits IntKind.u64))))) : Int))] = some h' ∧ ∃ (x : Int), AHeap.ld h' l (0 : Nat) (2 : Nat) (1 : Nat) = some [Value.int IntKind.u64 x] ∧ ∃ (x_2 : Int), AHeap.ld h' l (0 : Nat) (2 : Nat) (1 : Nat) = some [Value.int IntKind.u64 x_2] ∧ (0 : Int) ≤ (7 : Int) ∧ ∃ (h'_1 : AHeap), AHeap.wr h' l (0 : Nat) (2 : Nat) [Value.int IntKind.u64 (IntKind.wrap IntKind.u64 (↑(BitVec.toNat (BitVec.ofInt (IntKind.bits IntKind.u64) x ^^^ BitVec.ofInt (IntKind.bits IntKind.u64) (Int.fdiv x_2 ((2 : Int) ^ min (Int.toNat (7 : Int)) (IntKind.bits IntKind.u64))))) : Int))] = some h'_1 ∧ ∃ (x : Int), AHeap.ld h'_1 l (0 : Nat) (2 : Nat) (1 : Nat) = some [Value.int IntKind.u64 x] ∧ ∃ (x_3 : Int), AHeap.ld h'_1 l (0 : Nat) (2 : Nat) (1 : Nat) = some [Value.int IntKind.u64 x_3] ∧ (0 : Int) ≤ (17 : Int) ∧ ∃ (h' : AHeap), AHeap.wr h'_1 l (0 : Nat) (2 : Nat) [Value.int IntKind.u64 (IntKind.wrap IntKind.u64 (↑(BitVec.toNat (BitVec.ofInt (IntKind.bits IntKind.u64) x ^^^ BitVec.ofInt (IntKind.bits IntKind.u64) (IntKind.wrap IntKind.u64 (x_3 * (2 : Int) ^ min (Int.toNat (17 : Int)) (IntKind.bits IntKind.u64))))) : Int))] = some h' ∧ ∃ (x : Int), AHeap.ld h' l (0 : Nat) (2 : Nat) (1 : Nat) = some [Value.int IntKind.u64 x] ∧ (0 : Int) ≤ (20 : Int) ∧ IntKind.wrap IntKind.u64 most ≠ (0 : Int) ∧ Q (Value.int IntKind.i64 (IntKind.wrap IntKind.i64 (Int.tmod (IntKind.wrap IntKind.u64 ((0 : Int) + Int.fdiv x ((2 : Int) ^ min (Int.toNat (20 : Int)) (IntKind.bits IntKind.u64)))) (IntKind.wrap IntKind.u64 most)))) h'))) = _) ?_
  refine bs_d (fun e => HQ _ _ ⟨0, rfl, by omega, fun _ => rfl, fun h => by omega, ⟨Nat.le_refl _, fun _ _ _ e => e⟩, s.obj, s.wf⟩) (fun e => ?_)
  refine ⟨_, src1 hg, _, _, _, src0 hg, bs_d (fun e2 => ?_) (fun e2 => ?_)⟩
  · have en := s.bytes.len
    have hio : at_.toNat < bs.length := by omega
    obtain ⟨b, hat⟩ : ∃ y : Int, bs[at_.toNat]? = some y := ⟨_, List.getElem?_eq_getElem hio⟩
    obtain ⟨l2, r2, row, ha, _, hrd, hld⟩ := s.bytes.elem hat
    obtain rfl : row = [.int .u8 b] := hrd
    have ea : IntKind.i64.wrap (at_ + 1) = at_ + 1 := wrap_i64 (by have := s.ok.1; have : bs.length ≤ 9223372036854775807 := s.ok.1; omega)
    refine ⟨_, _, _, src0 hg, _, src1 hg, l2, r2, ha, h1.1, e2, _, hld, _, src1 hg, _, srcw1 _ hg, ?_⟩
    refine ⟨_, src2 AHeap.get_put_eq, _, src2 AHeap.get_put_eq, by omega, _, srcw2 _ AHeap.get_put_eq, _, src2 AHeap.get_put_eq, _, src2 AHeap.get_put_eq, by omega, _, srcw2 _ AHeap.get_put_eq, _, src2 AHeap.get_put_eq, _, src2 AHeap.get_put_eq, by omega, _, srcw2 _ AHeap.get_put_eq, _, src2 AHeap.get_put_eq, by omega, hne (by omega), ?_⟩
    rw [put_put, put_put, put_put]
    exact fin _ _ _ (by omega) (by rw [ea]; omega) (u64_wrap_bd _)
  · refine ⟨_, src2 hg, _, src2 hg, by omega, _, srcw2 _ hg, _, src2 AHeap.get_put_eq, _, src2 AHeap.get_put_eq, by omega, _, srcw2 _ AHeap.get_put_eq, _, src2 AHeap.get_put_eq, _, src2 AHeap.get_put_eq, by omega, _, srcw2 _ AHeap.get_put_eq, _, src2 AHeap.get_put_eq, by omega, hne (by omega), ?_⟩
    rw [put_put, put_put]
    exact fin _ _ _ (by omega) h1 (u64_wrap_bd _)
end Go.Proofs.Ytanienlcebkijaa
end
section
namespace Go.Dat
open Go.Abs
structure Drawn (h h' : AHeap) (l : Nat) (bs : List Sh.byte.T) (a : Option Addr) (n c : Nat) : Prop where
  but_n : h.n ≤ h'.n
  but : ∀ x o, x ≠ l → h.get x = some o → h'.get x = some o
  src : Src h' l bs a n c
theorem push_put' {h : AHeap} {o o' : AObj} : (h.push o).put h.n (some o') = h.push o' := by
  unfold AHeap.push AHeap.put
  congr 1
  funext x
  dsimp only
  split <;> rfl
theorem srcw3 {g : AHeap} {l : Nat} {a : Option Addr} {n c : Nat} {at_ mix size : Int} (v : Int) (hg : g.get l = some (srcO a n c at_ mix size)) : g.wr l 0 3 [.int .i64 v] = some (g.put l (some (srcO a n c at_ mix v))) := by unfold AHeap.wr; rw [hg]; rfl
theorem src3 {g : AHeap} {l : Nat} {a : Option Addr} {n c : Nat} {at_ mix size : Int} (hg : g.get l = some (srcO a n c at_ mix size)) : g.ld l 0 3 1 = some [.int .i64 size] := by unfold AHeap.ld; rw [hg]; rfl
end Go.Dat
namespace Go.Proofs.Ytanienlcebkijaa
open Go.Abs Go.Dat
set_option maxRecDepth 100000
set_option maxHeartbeats 8000000
theorem But.sl {l : Nat} {h h' : AHeap} (b : But l h h') {s : Sh} {xs : List s.T} {a : Option Addr} {n c : Nat} (hx : Sl h s xs (.slice a n c)) (ih : ∀ (i : Nat) (x : s.T) (row : List Value), s.rd h x row → s.rd h' x row) (hne : ∀ l2 r, a = some ⟨l2, r, some s.cells⟩ → l2 ≠ l) : Sl h' s xs (.slice a n c) := by
  obtain ⟨a', n', c', rows, e, h1, h2, h3, h4⟩ := hx
  cases e
  refine ⟨a, n, c, rows, rfl, h1, ?_, h3, fun i x row hx hr => ih i x row (h4 i x row hx hr)⟩
  rcases h1 with ⟨rfl, rfl, rfl⟩ | ⟨l2, r, rfl⟩
  · exact h2
  · have := hne l2 r rfl
    unfold AHeap.rowsOf at h2 ⊢
    dsimp only at h2 ⊢
    split at h2
    · rename_i o ho
      rw [b.get l2 o this ho]; exact h2
    · cases h2
theorem draw_n (h : AHeap) (l : Nat) (bytes : List Sh.byte.T) (a : Option Addr) (n c : Nat) (s : Src h l bytes a n c) (hne : ∀ l2 r, a = some ⟨l2, r, some 1⟩ → l2 ≠ l) (most : Int) (hm : -9223372036854775808 ≤ most ∧ most ≤ 9223372036854775807) :
    ∃ (r : Int) (h' : AHeap), ACall Try.prog 69 [.pointer (some ⟨l, 0, some 0⟩), .int .i64 most] h (.int .i64 r) h' ∧ 0 ≤ r ∧ (most ≤ 1 → r = 0) ∧ (1 < most → r < most) ∧ Drawn h h' l bytes a n c := by
  obtain ⟨_, h', hA, r, rfl, h1, h2, h3, hb, ho, hw⟩ := srcN_spec h l bytes a n c s most hm
  exact ⟨r, h', hA, h1, h2, h3, hb.n, hb.get, hw, hb.sl s.bytes (fun _ _ _ hr => hr) hne, s.ok, ho⟩
theorem draw_one (h : AHeap) (l : Nat) (bytes : List Sh.byte.T) (a : Option Addr) (n c : Nat) (s : Src h l bytes a n c) (hne : ∀ l2 r, a = some ⟨l2, r, some 1⟩ → l2 ≠ l) (of : Int) (hm : -9223372036854775808 ≤ of ∧ of ≤ 9223372036854775807) :
    ∃ (r : Bool) (h' : AHeap), ACall Try.prog 66 [.pointer (some ⟨l, 0, some 0⟩), .int .i64 of] h (.bool r) h' ∧ Drawn h h' l bytes a n c := by
  obtain ⟨r, h', hA, _, _, _, hd⟩ := draw_n h l bytes a n c s hne of hm
  have : ∃ v g, ACall Try.prog 66 [.pointer (some ⟨l, 0, some 0⟩), .int .i64 of] h v g ∧ v = .bool (decide (r = 0)) ∧ g = h' := by
    refine acall_vc (fun _ => false) (fun _ => []) (fun _ => .none) mixed Try.func66 rfl rfl rfl (Nat.le_of_ble_eq_true rfl) (by refine vc_mp (by kernel_rfl : (True ∧ True ∧ True) = _) ?_; simp only [and_self]) ?_
    refine vc_mp (by kernel_rfl : (∃ (x : Int), ∃ (h'_1 : AHeap), ACall Try.prog (69 : Nat) [Value.pointer (some (Addr.mk l (0 : Nat) (some (0 : Nat)))), Value.int IntKind.i64 of] h (Value.int IntKind.i64 x) h'_1 ∧ Value.bool (decide (x = (0 : Int))) = Value.bool (decide (r = (0 : Int))) ∧ h'_1 = h') = _) ?_
    exact ⟨_, _, hA, rfl, rfl⟩
  obtain ⟨_, _, hB, rfl, rfl⟩ := this
  exact ⟨_, _, hB, hd⟩
theorem draw_pick (h : AHeap) (l : Nat) (bytes : List Sh.byte.T) (a : Option Addr) (n c : Nat) (s : Src h l bytes a n c) (hne : ∀ l2 r, a = some ⟨l2, r, some 1⟩ → l2 ≠ l) (a2 : Option Addr) (n2 c2 : Nat) (xs : List Sh.str.T) (hx : Sl h Sh.str xs (.slice a2 n2 c2)) (hne2 : ∀ l2 r, a2 = some ⟨l2, r, some 1⟩ → l2 ≠ l) (hn2 : 1 < n2 ∧ n2 ≤ 1000000) :
    ∃ (t : ByteArray) (h' : AHeap), ACall Try.prog 68 [.pointer (some ⟨l, 0, some 0⟩), .slice a2 n2 c2] h (.string t) h' ∧ t ∈ xs ∧ Drawn h h' l bytes a n c := by
  obtain ⟨r, h', hA, r0, _, r2, hd⟩ := draw_n h l bytes a n c s hne n2 (by omega)
  have en := hx.len
  have hx' : Sl h' Sh.str xs (.slice a2 n2 c2) := But.sl (l := l) ⟨hd.but_n, hd.but⟩ hx (fun _ _ _ hr => hr) hne2
  obtain ⟨t, hat⟩ : ∃ y : ByteArray, xs[r.toNat]? = some y := ⟨_, List.getElem?_eq_getElem (by have := r2 (by omega); omega)⟩
  obtain ⟨l3, r3, row, ha, _, hrd, hld⟩ := hx'.elem hat
  obtain rfl : row = [.string t] := hrd
  have : ∃ v g, ACall Try.prog 68 [.pointer (some ⟨l, 0, some 0⟩), .slice a2 n2 c2] h v g ∧ v = .string t ∧ g = h' := by
    refine acall_vc (fun _ => false) (fun _ => []) (fun _ => .none) mixed Try.func68 rfl rfl rfl (Nat.le_of_ble_eq_true rfl) (by refine vc_mp (by kernel_rfl : (True ∧ True ∧ True) = _) ?_; simp only [and_self]) ?_
    refine vc_mp (by kernel_rfl : (∃ (x : Int), ∃ (h'_1 : AHeap), ACall Try.prog (69 : Nat) [Value.pointer (some (Addr.mk l (0 : Nat) (some (0 : Nat)))), Value.int IntKind.i64 (↑n2 : Int)] h (Value.int IntKind.i64 x) h'_1 ∧ ∃ (l : Nat), ∃ (r : Nat), a2 = some (Addr.mk l r (some (1 : Nat))) ∧ (0 : Int) ≤ x ∧ x < (↑n2 : Int) ∧ ∃ (x_1 : ByteArray), AHeap.ld h'_1 l (r + Int.toNat x) (0 : Nat) (1 : Nat) = some [Value.string x_1] ∧ Value.string x_1 = Value.string t ∧ h'_1 = h') = _) ?_
    exact ⟨_, _, hA, l3, r3, ha, r0, r2 (by omega), _, hld, rfl, rfl⟩
  obtain ⟨_, _, hB, rfl, rfl⟩ := this
  exact ⟨_, _, hB, List.mem_of_getElem? hat, hd⟩
def l1L (h : AHeap) (a : Option Addr) (n c : Nat) : LSpec where
  ι := Nat × Int
  κ := Int
  I := fun i => i.1 ≤ n ∧ 0 ≤ i.2 ∧ i.2 < 18446744073709551616
  μ := fun i => n - i.1
  head := fun i => ⟨[(0, .slice a n c), (3, .pointer (some ⟨h.n, 0, some 0⟩)), (4, .int .i64 i.1)], [], h.push (srcO a n c 0 i.2 0)⟩
  post := fun j => ⟨[(0, .slice a n c), (3, .pointer (some ⟨h.n, 0, some 0⟩))], [], h.push (srcO a n c 0 j 0)⟩
  R := fun _ j => 0 ≤ j ∧ j < 18446744073709551616
  ret := fun _ _ _ => False
theorem l01Source_spec (h : AHeap) (hw : h.wf) (a : Option Addr) (n c : Nat) (bytes : List Sh.byte.T) (hx : Sl h Sh.byte bytes (.slice a n c)) (ok : (Sh.sl Sh.byte).ok bytes) :
    ∃ v h', ACall Try.prog 65 [.slice a n c] h v h' ∧ h.Le h' ∧ v = .pointer (some ⟨h.n, 0, some 0⟩) ∧ Src h' h.n bytes a n c := by
  have en := hx.len
  have hn : n ≤ 9223372036854775807 := by rw [← en]; exact ok.1
  refine acall_q fun Q HQ => ?_
  refine acall_vc (fun t => t == 7) (fun r => match r with | 5 => [(0, 0, []), (1, 0, []), (2, 0, []), (3, 0, []), (5, 0, []), (6, 0, []), (7, 0, []), (4, 1, []), (8, 1, []), (9, 0, []), (10, 0, []), (11, 0, []), (12, 0, []), (13, 0, []), (14, 3, [])] | _ => []) (fun _ => l1L h a n c) mixed Try.func65 rfl rfl rfl (Nat.le_of_ble_eq_true rfl) ?_ ?_
  · refine vc_mp (by kernel_rfl : (True ∧ True ∧ (True ∧ (∀ (i : Nat × Int), Prod.fst i ≤ n ∧ (0 : Int) ≤ Prod.snd i ∧ Prod.snd i < (18446744073709551616 : Int) → bs (decide ((↑(Prod.fst i) : Int) < (↑n : Int))) (bs (decide ((↑(Prod.fst i) : Int) < (64 : Int))) (∃ (l : Nat), ∃ (r : Nat), a = some (Addr.mk l r (some (1 : Nat))) ∧ (0 : Int) ≤ (↑(Prod.fst i) : Int) ∧ (↑(Prod.fst i) : Int) < (↑n : Int) ∧ ∃ (x : Int), AHeap.ld (AHeap.push h (srcO a n c (0 : Int) (Prod.snd i) (0 : Int))) (AHeap.n h) (0 : Nat) (2 : Nat) (1 : Nat) = some [Value.int IntKind.u64 x] ∧ ∃ (x_1 : Int), AHeap.ld (AHeap.push h (srcO a n c (0 : Int) (Prod.snd i) (0 : Int))) l (r + Int.toNat (↑(Prod.fst i) : Int)) (0 : Nat) (1 : Nat) = some [Value.int IntKind.u8 x_1] ∧ ∃ (h' : AHeap), AHeap.wr (AHeap.push h (srcO a n c (0 : Int) (Prod.snd i) (0 : Int))) (AHeap.n h) (0 : Nat) (2 : Nat) [Value.int IntKind.u64 (IntKind.wrap IntKind.u64 (IntKind.wrap IntKind.u64 (↑(BitVec.toNat (BitVec.ofInt (IntKind.bits IntKind.u64) x ^^^ BitVec.ofInt (IntKind.bits IntKind.u64) (IntKind.wrap IntKind.u64 x_1))) : Int) * (1099511628211 : Int)))] = some h' ∧ ∃ (j : Nat × Int), Value.slice a n c = Value.slice a n c ∧ Value.pointer (some (Addr.mk (AHeap.n h) (0 : Nat) (some (0 : Nat)))) = Value.pointer (some (Addr.mk (AHeap.n h) (0 : Nat) (some (0 : Nat)))) ∧ Value.int IntKind.i64 (IntKind.wrap IntKind.i64 ((↑(Prod.fst i) : Int) + (1 : Int))) = Value.int IntKind.i64 (↑(Prod.fst j) : Int) ∧ AHeap.push h (srcO a n c (0 : Int) (Prod.snd j) (0 : Int)) = h' ∧ (Prod.fst j ≤ n ∧ (0 : Int) ≤ Prod.snd j ∧ Prod.snd j < (18446744073709551616 : Int)) ∧ n - Prod.fst j < n - Prod.fst i ∧ (∀ (k : Int), (0 : Int) ≤ k ∧ k < (18446744073709551616 : Int) → (0 : Int) ≤ k ∧ k < (18446744073709551616 : Int)) ∧ ∀ (v : Value) (h : AHeap), False → False) (∃ (j : Int), Value.slice a n c = Value.slice a n c ∧ Value.pointer (some (Addr.mk (AHeap.n h) (0 : Nat) (some (0 : Nat)))) = Value.pointer (some (Addr.mk (AHeap.n h) (0 : Nat) (some (0 : Nat)))) ∧ AHeap.push h (srcO a n c (0 : Int) j (0 : Int)) = AHeap.push h (srcO a n c (0 : Int) (Prod.snd i) (0 : Int)) ∧ (0 : Int) ≤ j ∧ j < (18446744073709551616 : Int))) (∃ (j : Int), Value.slice a n c = Value.slice a n c ∧ Value.pointer (some (Addr.mk (AHeap.n h) (0 : Nat) (some (0 : Nat)))) = Value.pointer (some (Addr.mk (AHeap.n h) (0 : Nat) (some (0 : Nat)))) ∧ AHeap.push h (srcO a n c (0 : Int) j (0 : Int)) = AHeap.push h (srcO a n c (0 : Int) (Prod.snd i) (0 : Int)) ∧ (0 : Int) ≤ j ∧ j < (18446744073709551616 : Int))) ∧ (True ∧ True ∧ True) ∧ True ∧ True) ∧ True ∧ (True ∧ True ∧ True) ∧ True ∧ True) = _) ?_
    simp only [true_and, and_true]
    rintro ⟨i, mix⟩ ⟨hi, hm⟩
    dsimp only at *
    refine bs_d (fun hlt => ?_) (fun hge => ⟨mix, rfl, hm⟩)
    refine bs_d (fun h64 => ?_) (fun hge => ⟨mix, rfl, hm⟩)
    have hio : i < bytes.length := by omega
    obtain ⟨b, hat⟩ : ∃ y : Int, bytes[i]? = some y := ⟨_, List.getElem?_eq_getElem hio⟩
    obtain ⟨l, r, row, ha, _, hrd, hld⟩ := (hx.mono (.push hw (srcO a n c 0 mix 0))).elem hat
    obtain rfl : row = [.int .u8 b] := hrd
    refine ⟨l, r, ha, Int.natCast_nonneg _, hlt, _, src2 AHeap.get_push_eq, _, hld, _, srcw2 _ AHeap.get_push_eq, (i + 1, _), by rw [wrap_i64 (by omega)]; rfl, push_put'.symm, ⟨by dsimp only; omega, u64_wrap_bd _⟩, by dsimp only; omega, fun _ h => h, fun _ _ h => h⟩
  refine vc_mp (by kernel_rfl : (∃ (i : Nat × Int), Value.slice a n c = Value.slice a n c ∧ Value.pointer (some (Addr.mk (AHeap.n h) (0 : Nat) (some (0 : Nat)))) = Value.pointer (some (Addr.mk (AHeap.n h) (0 : Nat) (some (0 : Nat)))) ∧ Value.int IntKind.i64 (0 : Int) = Value.int IntKind.i64 (↑(Prod.fst i) : Int) ∧ AHeap.push h (srcO a n c (0 : Int) (Prod.snd i) (0 : Int)) = AHeap.push h (AObj.mk [[Value.slice a n c, Value.int IntKind.i64 (Int.ofNat (0 : Nat)), Value.int IntKind.u64 (88172645463325252 : Int), Value.int IntKind.i64 (Int.ofNat (0 : Nat))]] (4 : Nat) true) ∧ (Prod.fst i ≤ n ∧ (0 : Int) ≤ Prod.snd i ∧ Prod.snd i < (18446744073709551616 : Int)) ∧ (∀ (j : Int), (0 : Int) ≤ j ∧ j < (18446744073709551616 : Int) → (20 : Int) ≠ (0 : Int) ∧ ∃ (h' : AHeap), AHeap.wr (AHeap.push h (srcO a n c (0 : Int) j (0 : Int))) (AHeap.n h) (0 : Nat) (3 : Nat) [Value.int IntKind.i64 (IntKind.wrap IntKind.i64 (Int.tdiv (↑n : Int) (20 : Int)))] = some h' ∧ ∃ (x : Int), AHeap.ld h' (AHeap.n h) (0 : Nat) (3 : Nat) (1 : Nat) = some [Value.int IntKind.i64 x] ∧ bs (decide (x > (12 : Int))) (∃ (h'_1 : AHeap), AHeap.wr h' (AHeap.n h) (0 : Nat) (3 : Nat) [Value.int IntKind.i64 (12 : Int)] = some h'_1 ∧ Q (Value.pointer (some (Addr.mk (AHeap.n h) (0 : Nat) (some (0 : Nat))))) h'_1) (Q (Value.pointer (some (Addr.mk (AHeap.n h) (0 : Nat) (some (0 : Nat))))) h')) ∧ ∀ (v : Value) (h : AHeap), False → Q v h) = _) ?_
  have fin : ∀ (mix size : Int), (0 ≤ mix ∧ mix < 18446744073709551616) → (0 ≤ size ∧ size ≤ 12) → Q (.pointer (some ⟨h.n, 0, some 0⟩)) (h.push (srcO a n c 0 mix size)) := fun mix size hm hs =>
    HQ _ _ ⟨.push hw _, rfl, hw.push _, hx.mono (.push hw _), ok, ⟨0, mix, size, AHeap.get_push_eq, by omega, hm, hs⟩⟩
  refine ⟨(0, 88172645463325252), rfl, rfl, rfl, rfl, ⟨Nat.zero_le _, by dsimp only; omega, by dsimp only; omega⟩, fun mix hm => ⟨by omega, _, srcw3 _ AHeap.get_push_eq, ?_⟩, fun _ _ h => h.elim⟩
  rw [push_put']
  have e1 : Int.tdiv (n : Int) 20 = (n : Int) / 20 := Int.tdiv_eq_ediv_of_nonneg (by omega)
  refine ⟨_, src3 AHeap.get_push_eq, ?_⟩
  rw [e1, wrap_i64 (by omega)]
  refine bs_d (fun e => ⟨_, srcw3 _ AHeap.get_push_eq, ?_⟩) (fun e => fin _ _ hm (by omega))
  rw [push_put']
  exact fin _ _ hm (by omega)
end Go.Proofs.Ytanienlcebkijaa
end
section
namespace Go.Dat
open Go.Abs
theorem World.shape_lt {w : World} {b : Nat} {x : TypeId × Nat} (h : w.shape? b = some x) : b < w.heap.size := by
  rcases Nat.lt_or_ge b w.heap.size with hl | hl
  · exact hl
  · unfold World.shape? at h
    rw [Array.getElem?_eq_none hl] at h
    simp at h
theorem cell_pos {P : Program} {W : World} {base : Nat} {u : TypeId} {a : Addr} {n c : Nat} (h : Cell.okWide P W .any base u (.slice (some a) n c)) : 0 < W.heap.size := by
  have h2 : Cell.ok P W .any base u (.slice (some a) n c) := by
    unfold Cell.okWide at h
    split at h <;> first | exact h | (rename_i e; cases e)
  unfold Cell.ok at h2
  split at h2
  all_goals first
    | (rename_i e; cases e; done)
    | skip
  · rename_i e
    cases e
    obtain ⟨_, _, _, _, row, cells, hs, _⟩ := h2
    have := World.shape_lt hs
    omega
  · exact h2.elim
theorem arg_slice {H : Type} {enc : TypeId × Value → H} {P : Program} {W : World} {base m : Nat} {t e : TypeId} {s : Sh} {v : Value} {d : DataW H} {p : List MemPlace} {os : List InObj}
    (hu : P.underlying t = some (.slice e)) (hs : shapes m P t (.sl s) = true) (hv : Value.okWide P W .any base t v) (h0 : DataW.Trod enc P W 0 (fun _ => true) true t v d p) (hg : IGood W os) :
    ∃ (more : List InObj) (y : List s.T) (a : Option Addr) (n c : Nat), IGood W (os ++ more) ∧ Sl (inHeap (os ++ more)) s y (.slice a n c) ∧ VRel (inLay (os ++ more)) (.slice a n c) v ∧ (Sh.sl s).ok y := by
  unfold Value.okWide at hv
  rw [hu] at hv
  dsimp only at hv
  have hc : v.cells.toList = [v] := by
    cases v <;> first | rfl | skip
    unfold Cell.okWide at hv
    rw [hu] at hv
    simp [Cell.ok, hu] at hv
  obtain ⟨fuel, h0⟩ := h0
  rw [hc] at h0
  obtain ⟨more, y, acs, g1, r1, v1, k1⟩ := open_sh m t (.sl s) hs fuel os _ _ hg (fun a n c hm => by
    rw [List.mem_singleton] at hm
    subst hm
    exact cell_pos hv) h0
  obtain ⟨w, rfl, hw⟩ := rd_sl.1 r1
  obtain ⟨a, c, rfl⟩ := hw.isSlice
  exact ⟨more, y, a, _, c, g1, hw, v1.rel 0 _ _ rfl rfl, k1⟩
theorem arel1 {L : Lay} {a A : Value} (h : VRel L a A) : ARel L #[a] #[A] := by
  refine ⟨rfl, fun i v V h1 h2 => ?_⟩
  match i, h1, h2 with
  | 0, h1, h2 => simp at h1 h2; subst h1; subst h2; exact h
  | i + 1, h1, h2 => simp at h1
end Go.Dat
end
section
namespace Go.Abs
end Go.Abs
end
section
namespace Go.Proofs.Ytanienlcebkijaa
open Go.Abs Go.Dat
set_option maxRecDepth 100000
set_option maxHeartbeats 4000000
end Go.Proofs.Ytanienlcebkijaa
end
section
namespace Go.Dat
open Go.Abs
open Classical in
noncomputable def tr (p : Prop) : Bool := decide p
end Go.Dat
namespace Go.Proofs.Ytanienlcebkijaa
open Go.Abs Go.Dat
set_option maxRecDepth 100000
set_option maxHeartbeats 4000000
end Go.Proofs.Ytanienlcebkijaa
end
section
namespace Go.Dat
open Go.Abs
def ChOk (t : ByteArray) (i : Nat) : Prop := (97 ≤ byteAt t i ∧ byteAt t i ≤ 122) ∨ (0 < i ∧ (byteAt t i = 95 ∨ (48 ≤ byteAt t i ∧ byteAt t i ≤ 57)))
def NameOk (t : ByteArray) : Prop := 1 ≤ t.size ∧ t.size ≤ 20 ∧ ∀ i, i < t.size → ChOk t i
def MsgOk (t : ByteArray) : Prop := 1 ≤ t.size ∧ t.size ≤ 40
end Go.Dat
namespace Go.Proofs.Ytanienlcebkijaa
open Go.Abs Go.Dat
set_option maxRecDepth 100000
set_option maxHeartbeats 4000000
end Go.Proofs.Ytanienlcebkijaa
end
section
namespace Go.Dat
open Go.Abs
def HeldOk (hs : List Sh.str.T) (i : Nat) : Prop := ∃ t : ByteArray, hs[i]? = some t ∧ MsgOk t
def GrpOk (gs : List groupSh.T) (lo hi : Int) (i : Nat) : Prop := ∃ (n : ByteArray) (k : Int), gs[i]? = some (n, k) ∧ NameOk n ∧ (lo ≤ k ∧ k ≤ hi) ∧ ∀ j, i = j + 1 → ∃ (m : ByteArray) (l : Int), gs[j]? = some (m, l) ∧ Op.bytesLess m.toList n.toList = true
def TopicOk (name : ByteArray) (base : Int) (held : List Sh.str.T) (gs : List groupSh.T) : Prop :=
  NameOk name ∧ (0 ≤ base ∧ base ≤ 1000000000) ∧ held.length ≤ 20 ∧ gs.length ≤ 4 ∧ base + held.length ≤ 1000000000 ∧ (∀ i, i < held.length → HeldOk held i) ∧ ∀ i, i < gs.length → GrpOk gs base (base + held.length) i
theorem GrpOk.mk0 {gs : List groupSh.T} {lo hi k : Int} {n : ByteArray} {i : Nat} (e : gs[i]? = some (n, k)) (h1 : NameOk n) (h2 : lo ≤ k ∧ k ≤ hi) (hi0 : i = 0) : GrpOk gs lo hi i := ⟨n, k, e, h1, h2, fun j hj => by omega⟩
theorem GrpOk.out {gs : List groupSh.T} {lo hi k : Int} {n : ByteArray} {i : Nat} (H : GrpOk gs lo hi i) (e : gs[i]? = some (n, k)) : NameOk n ∧ lo ≤ k ∧ k ≤ hi ∧ ∀ m l, 0 < i → gs[i - 1]? = some (m, l) → Op.bytesLess m.toList n.toList = true := by
  obtain ⟨n', k', e', h1, h2, h3⟩ := H
  rw [e] at e'
  cases e'
  refine ⟨h1, h2.1, h2.2, fun m l hp e2 => ?_⟩
  obtain ⟨m', l', e3, h4⟩ := h3 (i - 1) (by omega)
  rw [e2] at e3
  cases e3
  exact h4
theorem HeldOk.out {hs : List Sh.str.T} {t : ByteArray} {i : Nat} (H : HeldOk hs i) (e : hs[i]? = some t) : MsgOk t := by
  obtain ⟨t', e', h1⟩ := H
  rw [e] at e'
  cases e'
  exact h1
end Go.Dat
namespace Go.Proofs.Ytanienlcebkijaa
open Go.Abs Go.Dat
set_option maxRecDepth 100000
set_option maxHeartbeats 4000000
end Go.Proofs.Ytanienlcebkijaa
end
section
namespace Go.Proofs.Ytanienlcebkijaa
open Go.Abs Go.Dat
set_option maxRecDepth 100000
set_option maxHeartbeats 4000000
end Go.Proofs.Ytanienlcebkijaa
end
section
namespace Go.Dat
open Go.Abs
def cat : List ByteArray → ByteArray
  | [] => ⟨#[]⟩
  | x :: xs => x ++ cat xs
theorem ba_ext {a b : ByteArray} (h : a.data.toList = b.data.toList) : a = b := by
  cases a; cases b; congr 1; exact Array.ext' h
theorem ba_append_nil (a : ByteArray) : a ++ (⟨#[]⟩ : ByteArray) = a := ba_ext (by simp)
theorem ba_nil_append (a : ByteArray) : (⟨#[]⟩ : ByteArray) ++ a = a := ba_ext (by simp)
theorem ba_assoc (a b c : ByteArray) : a ++ b ++ c = a ++ (b ++ c) := ba_ext (by simp)
theorem cat_append : ∀ (xs ys : List ByteArray), cat (xs ++ ys) = cat xs ++ cat ys
  | [], ys => (ba_nil_append _).symm
  | x :: xs, ys => by show x ++ cat (xs ++ ys) = x ++ cat xs ++ cat ys; rw [cat_append xs ys, ba_assoc]
structure BInv (h0 h : AHeap) (a : Option Addr) (n c : Nat) (b : ByteArray) : Prop where
  le : h0.Le h
  wf : h.wf
  wf0 : h0.wf
  nb : b.size = n
  at_ : (a = none ∧ n = 0 ∧ c = 0) ∨ ∃ l, a = some ⟨l, 0, some 1⟩ ∧ h0.n ≤ l ∧ h.get l = some ⟨bytesRows b, 1, true⟩ ∧ (c = 0 ∨ c = n + 1)
theorem bytesRows_len (b : ByteArray) : (bytesRows b).length = b.size := by
  unfold bytesRows
  rw [List.length_map]
  exact Array.length_toList
theorem bytesRows_app (a b : ByteArray) : bytesRows (a ++ b) = bytesRows a ++ bytesRows b := by
  unfold bytesRows; simp
theorem BInv.rows {h0 h : AHeap} {a : Option Addr} {n c : Nat} {b : ByteArray} (I : BInv h0 h a n c b) : h.rowsOf (.slice a n c) = some (bytesRows b) := by
  have hl := bytesRows_len b
  have nb := I.nb
  rcases I.at_ with ⟨rfl, rfl, rfl⟩ | ⟨l, rfl, _, hg, _⟩
  · have : bytesRows b = [] := List.eq_nil_of_length_eq_zero (by omega)
    rw [this]; rfl
  · rw [get_rowsOf hg (by omega), List.drop_zero, List.take_of_length_le (by omega)]
theorem BInv.app {h0 h : AHeap} {a : Option Addr} {n c : Nat} {b : ByteArray} (I : BInv h0 h a n c b) (d : ByteArray) :
    ∃ a' c' h', h.app (.slice a n c) (bytesRows d) 1 = some (.slice a' (n + d.size) c', h') ∧ BInv h0 h' a' (n + d.size) c' (b ++ d) := by
  have hd := bytesRows_len d
  have hb := bytesRows_len b
  have nb := I.nb
  have hr := I.rows
  have sz : (b ++ d).size = n + d.size := by rw [ByteArray.size_append]; omega
  unfold AHeap.app
  dsimp only
  cases hx : bytesRows d with
  | nil =>
    rw [hx] at hd
    have h0 : d.size = 0 := hd.symm
    have hd0 : d = ⟨#[]⟩ := ba_ext (by have : d.data.toList.length = 0 := by rw [Array.length_toList]; exact h0
                                       simpa using List.eq_nil_of_length_eq_zero this)
    subst hd0
    exact ⟨a, c, h, rfl, I.le, I.wf, I.wf0, by rw [ba_append_nil]; exact nb, by rw [ba_append_nil]; exact I.at_⟩
  | cons x xs =>
    rw [hx] at hd
    rcases I.at_ with ⟨rfl, rfl, rfl⟩ | ⟨l, rfl, hl, hg, hc⟩
    · have e0 : bytesRows b = [] := List.eq_nil_of_length_eq_zero (by omega)
      dsimp only
      refine ⟨_, _, _, by rw [hd, Nat.zero_add], I.le.trans (.push I.wf _), I.wf.push _, I.wf0, sz, .inr ⟨h.n, rfl, I.le.n, ?_, .inl rfl⟩⟩
      rw [AHeap.get_push_eq, bytesRows_app, e0, hx]; rfl
    · dsimp only
      rw [hr]
      dsimp only
      rw [beq_self_eq_true, cond_true]
      cases hcc : (c != 0 && decide (c ≤ n + (x :: xs).length)) with
      | true =>
        rw [cond_true]
        refine ⟨_, _, _, by rw [hd], I.le.trans (.push I.wf _), I.wf.push _, I.wf0, sz, .inr ⟨h.n, rfl, I.le.n, ?_, .inl rfl⟩⟩
        rw [AHeap.get_push_eq, bytesRows_app, hx]
      | false =>
        rw [cond_false, hg]
        dsimp only
        have hno : (c != 0 && decide (0 + n + (x :: xs).length ≤ (bytesRows b).length)) = false := by
          rw [Bool.and_eq_false_iff]; right; rw [decide_eq_false_iff_not, hb]; simp only [List.length_cons]; omega
        rw [cond_true, hno, cond_false]
        have w2 : (h.put l none).wf := I.wf.put (I.wf.lt hg) _
        refine ⟨_, _, _, by rw [hd], (I.le.put (I.wf0 l hl) none).trans (.push w2 _), w2.push _, I.wf0, sz, .inr ⟨h.n, rfl, I.le.n, ?_, .inl rfl⟩⟩
        show ((h.put l none).push _).get (h.put l none).n = _
        rw [AHeap.get_push_eq, bytesRows_app, hx]
end Go.Dat
end
section
namespace Go.Dat
open Go.Abs
def NRow (k : IntKind) (h : AHeap) (l n : Nat) : Prop := ∃ rows, h.get l = some ⟨rows, 1, true⟩ ∧ rows.length = n ∧ ∀ row ∈ rows, ∃ x : Int, row = [.int k x]
theorem NRow.ld {k : IntKind} {h : AHeap} {l n : Nat} (r : NRow k h l n) {i : Nat} (hi : i < n) : ∃ x : Int, h.ld l i 0 1 = some [.int k x] := by
  obtain ⟨rows, hg, hl, hr⟩ := r
  have hi' : rows[i]? = some rows[i] := List.getElem?_eq_getElem (by omega)
  obtain ⟨x, hx⟩ := hr _ (List.mem_of_getElem? hi')
  refine ⟨x, ?_⟩
  unfold AHeap.ld
  rw [hg]
  dsimp only
  rw [hi', hx]; rfl
theorem NRow.wr {k : IntKind} {h : AHeap} {l n : Nat} (r : NRow k h l n) {i : Nat} (hi : i < n) (v : Int) : ∃ h', h.wr l i 0 [.int k v] = some h' ∧ NRow k h' l n ∧ h'.n = h.n ∧ ∀ x, x ≠ l → h'.get x = h.get x := by
  obtain ⟨rows, hg, hl, hr⟩ := r
  have hi' : rows[i]? = some rows[i] := List.getElem?_eq_getElem (by omega)
  obtain ⟨x, hx⟩ := hr _ (List.mem_of_getElem? hi')
  refine ⟨h.put l (some ⟨rows.set i [.int k v], 1, true⟩), ?_, ⟨_, AHeap.get_put_eq, by simp [hl], fun row hm => ?_⟩, rfl, fun y hy => AHeap.get_put_ne hy⟩
  · unfold AHeap.wr
    rw [hg]
    dsimp only
    rw [hi', hx]; rfl
  · rcases List.mem_or_eq_of_mem_set hm with hm | rfl
    · exact hr row hm
    · exact ⟨v, rfl⟩
theorem NRow.wrE {k : IntKind} {h : AHeap} {l n : Nat} (r : NRow k h l n) {z : Nat} (hz : z < n) (wf : h.wf) (v : Int) {K : AHeap → Prop} (hK : ∀ h', NRow k h' l n → h'.n = h.n → h'.wf → (∀ x, x ≠ l → h'.get x = h.get x) → K h') : ∃ h', h.wr l z 0 [.int k v] = some h' ∧ K h' := by
  obtain ⟨h', e, r', en, hk⟩ := r.wr hz v
  refine ⟨h', e, hK h' r' en (fun x hx => ?_) hk⟩
  have hl : l < h.n := by
    obtain ⟨rows, hg, _⟩ := r
    exact wf.lt hg
  rw [hk x (by omega)]
  exact wf x (by omega)
theorem NRow.lt {k : IntKind} {h : AHeap} {l n : Nat} (r : NRow k h l n) (wf : h.wf) : l < h.n := by
  obtain ⟨rows, hg, _⟩ := r
  exact wf.lt hg
theorem NRow.le {k : IntKind} {h h' : AHeap} {l n : Nat} (r : NRow k h l n) (le : h.Le h') : NRow k h' l n := by
  obtain ⟨rows, hg, hl, hr⟩ := r
  exact ⟨rows, le.get _ _ hg, hl, hr⟩
theorem NRow.keep {k : IntKind} {h h' : AHeap} {l n : Nat} (r : NRow k h l n) (e : h'.get l = h.get l) : NRow k h' l n := by
  obtain ⟨rows, hg, hl, hr⟩ := r
  exact ⟨rows, by rw [e]; exact hg, hl, hr⟩
structure RInv (h0 h : AHeap) (a : Option Addr) (n c : Nat) (rows : List (List Value)) : Prop where
  le : h0.Le h
  wf : h.wf
  wf0 : h0.wf
  nb : rows.length = n
  at_ : (a = none ∧ n = 0 ∧ c = 0) ∨ ∃ l, a = some ⟨l, 0, some 1⟩ ∧ h0.n ≤ l ∧ h.get l = some ⟨rows, 1, true⟩ ∧ (c = 0 ∨ c = n + 1)
theorem RInv.rowsOf {h0 h : AHeap} {a : Option Addr} {n c : Nat} {rows : List (List Value)} (I : RInv h0 h a n c rows) : h.rowsOf (.slice a n c) = some rows := by
  have nb := I.nb
  rcases I.at_ with ⟨rfl, rfl, rfl⟩ | ⟨l, rfl, _, hg, _⟩
  · rw [List.eq_nil_of_length_eq_zero nb]; rfl
  · rw [get_rowsOf hg (by omega), List.drop_zero, List.take_of_length_le (by omega)]
theorem RInv.push {h0 h : AHeap} {a : Option Addr} {n c : Nat} {rows : List (List Value)} (I : RInv h0 h a n c rows) (o : AObj) : RInv h0 (h.push o) a n c rows :=
  ⟨I.le.trans (.push I.wf _), I.wf.push _, I.wf0, I.nb, I.at_.imp id fun ⟨l, e, h1, h2, h3⟩ => ⟨l, e, h1, (AHeap.Le.push I.wf o).get l _ h2, h3⟩⟩
theorem RInv.app {h0 h : AHeap} {a : Option Addr} {n c : Nat} {rows : List (List Value)} (I : RInv h0 h a n c rows) (x : List Value) (xs : List (List Value)) :
    ∃ l h', h.app (.slice a n c) (x :: xs) 1 = some (.slice (some ⟨l, 0, some 1⟩) (n + (x :: xs).length) 0, h') ∧ h0.n ≤ l ∧ RInv h0 h' (some ⟨l, 0, some 1⟩) (n + (x :: xs).length) 0 (rows ++ x :: xs) := by
  have nb := I.nb
  have hr := I.rowsOf
  have sz : (rows ++ x :: xs).length = n + (x :: xs).length := by rw [List.length_append, nb]
  unfold AHeap.app
  dsimp only
  rcases I.at_ with ⟨rfl, rfl, rfl⟩ | ⟨l, rfl, hl, hg, hc⟩
  · have e0 : rows = [] := List.eq_nil_of_length_eq_zero nb
    subst e0
    exact ⟨h.n, _, by rw [Nat.zero_add, List.nil_append], I.le.n, I.le.trans (.push I.wf _), I.wf.push _, I.wf0, sz, .inr ⟨h.n, rfl, I.le.n, AHeap.get_push_eq, .inl rfl⟩⟩
  · dsimp only
    rw [hr]
    dsimp only
    rw [beq_self_eq_true, cond_true]
    cases hcc : (c != 0 && decide (c ≤ n + (x :: xs).length)) with
    | true =>
      rw [cond_true]
      exact ⟨h.n, _, rfl, I.le.n, I.le.trans (.push I.wf _), I.wf.push _, I.wf0, sz, .inr ⟨h.n, rfl, I.le.n, AHeap.get_push_eq, .inl rfl⟩⟩
    | false =>
      rw [cond_false, hg]
      dsimp only
      have hno : (c != 0 && decide (0 + n + (x :: xs).length ≤ rows.length)) = false := by
        rw [Bool.and_eq_false_iff]; right; rw [decide_eq_false_iff_not]; simp only [List.length_cons]; omega
      rw [cond_true, hno, cond_false]
      have w2 : (h.put l none).wf := I.wf.put (I.wf.lt hg) _
      refine ⟨h.n, _, rfl, I.le.n, (I.le.put (I.wf0 l hl) none).trans (.push w2 _), w2.push _, I.wf0, sz, .inr ⟨h.n, rfl, I.le.n, ?_, .inl rfl⟩⟩
      show ((h.put l none).push _).get (h.put l none).n = _
      rw [AHeap.get_push_eq]
end Go.Dat
namespace Go.Proofs.Ytanienlcebkijaa
open Go.Abs Go.Dat
set_option maxRecDepth 100000
set_option maxHeartbeats 8000000
theorem l02Turn_spec (h : AHeap) (x k : Int) (hk : 0 ≤ k ∧ k ≤ 32) : ∃ y : Int, ACall Try.prog 190 [.int .u32 x, .int .u64 k] h (.int .u32 y) h := by
  have : ∃ v g, ACall Try.prog 190 [.int .u32 x, .int .u64 k] h v g ∧ ∃ y : Int, v = .int .u32 y ∧ g = h := by
    refine acall_vc (fun _ => false) (fun _ => []) (fun _ => .none) mixed Try.func190 rfl rfl rfl (Nat.le_of_ble_eq_true rfl) (by refine vc_mp (by kernel_rfl : (True ∧ True ∧ True) = _) ?_; simp only [and_self]) ?_
    refine vc_mp (by kernel_rfl : ((0 : Int) ≤ k ∧ (0 : Int) ≤ IntKind.wrap IntKind.u64 ((32 : Int) - k) ∧ ∃ (y : Int), Value.int IntKind.u32 (IntKind.wrap IntKind.u32 (↑(BitVec.toNat (BitVec.ofInt (IntKind.bits IntKind.u32) (Int.fdiv x ((2 : Int) ^ min (Int.toNat k) (IntKind.bits IntKind.u32))) ||| BitVec.ofInt (IntKind.bits IntKind.u32) (IntKind.wrap IntKind.u32 (x * (2 : Int) ^ min (Int.toNat (IntKind.wrap IntKind.u64 ((32 : Int) - k))) (IntKind.bits IntKind.u32))))) : Int)) = Value.int IntKind.u32 y ∧ h = h) = _) ?_
    exact ⟨hk.1, (u64_wrap_bd _).1, _, rfl, rfl⟩
  obtain ⟨_, _, hA, y, rfl, rfl⟩ := this
  exact ⟨y, hA⟩
theorem l02Start_spec (h : AHeap) (hw : h.wf) : ∃ v h', ACall Try.prog 135 [] h v h' ∧ h.Le h' ∧ h'.wf ∧ v = .slice (some ⟨h.n, 0, some 1⟩) 8 9 ∧ NRow .i64 h' h.n 8 := by
  refine acall_q fun Q HQ => ?_
  refine acall_vc (fun _ => true) (fun _ => []) (fun _ => .none) mixed Try.func135 rfl rfl rfl (Nat.le_of_ble_eq_true rfl) (by refine vc_mp (by kernel_rfl : (True ∧ True ∧ True) = _) ?_; simp only [and_self]) ?_
  refine vc_mp (by kernel_rfl : (Q (Value.slice (some (Addr.mk (AHeap.n h) (0 : Nat) (some (1 : Nat)))) (8 : Nat) (9 : Nat)) (AHeap.push h (AObj.mk [[Value.int IntKind.i64 (1779033703 : Int)], [Value.int IntKind.i64 (3144134277 : Int)], [Value.int IntKind.i64 (1013904242 : Int)], [Value.int IntKind.i64 (2773480762 : Int)], [Value.int IntKind.i64 (1359893119 : Int)], [Value.int IntKind.i64 (2600822924 : Int)], [Value.int IntKind.i64 (528734635 : Int)], [Value.int IntKind.i64 (1541459225 : Int)]] (1 : Nat) true))) = _) ?_
  refine HQ _ _ ⟨.push hw _, hw.push _, rfl, _, AHeap.get_push_eq, rfl, ?_⟩
  intro row hm
  simp only [List.mem_cons, List.not_mem_nil, or_false] at hm
  rcases hm with rfl | rfl | rfl | rfl | rfl | rfl | rfl | rfl <;> exact ⟨_, rfl⟩
theorem l02Keys_spec (h : AHeap) (hw : h.wf) : ∃ v h', ACall Try.prog 191 [] h v h' ∧ h.Le h' ∧ h'.wf ∧ v = .slice (some ⟨h.n, 0, some 1⟩) 64 65 ∧ NRow .u32 h' h.n 64 := by
  refine acall_q fun Q HQ => ?_
  refine acall_vc (fun _ => true) (fun _ => []) (fun _ => .none) mixed Try.func191 rfl rfl rfl (Nat.le_of_ble_eq_true rfl) (by refine vc_mp (by kernel_rfl : (True ∧ True ∧ True) = _) ?_; simp only [and_self]) ?_
  refine vc_mp (by kernel_rfl : (Q (Value.slice (some (Addr.mk (AHeap.n h) (0 : Nat) (some (1 : Nat)))) (64 : Nat) (65 : Nat)) (AHeap.push h (AObj.mk [[Value.int IntKind.u32 (1116352408 : Int)], [Value.int IntKind.u32 (1899447441 : Int)], [Value.int IntKind.u32 (3049323471 : Int)], [Value.int IntKind.u32 (3921009573 : Int)], [Value.int IntKind.u32 (961987163 : Int)], [Value.int IntKind.u32 (1508970993 : Int)], [Value.int IntKind.u32 (2453635748 : Int)], [Value.int IntKind.u32 (2870763221 : Int)], [Value.int IntKind.u32 (3624381080 : Int)], [Value.int IntKind.u32 (310598401 : Int)], [Value.int IntKind.u32 (607225278 : Int)], [Value.int IntKind.u32 (1426881987 : Int)], [Value.int IntKind.u32 (1925078388 : Int)], [Value.int IntKind.u32 (2162078206 : Int)], [Value.int IntKind.u32 (2614888103 : Int)], [Value.int IntKind.u32 (3248222580 : Int)], [Value.int IntKind.u32 (3835390401 : Int)], [Value.int IntKind.u32 (4022224774 : Int)], [Value.int IntKind.u32 (264347078 : Int)], [Value.int IntKind.u32 (604807628 : Int)], [Value.int IntKind.u32 (770255983 : Int)], [Value.int IntKind.u32 (1249150122 : Int)], [Value.int IntKind.u32 (1555081692 : Int)], [Value.int IntKind.u32 (1996064986 : Int)], [Value.int IntKind.u32 (2554220882 : Int)], [Value.int IntKind.u32 (2821834349 : Int)], [Value.int IntKind.u32 (2952996808 : Int)], [Value.int IntKind.u32 (3210313671 : Int)], [Value.int IntKind.u32 (3336571891 : Int)], [Value.int IntKind.u32 (3584528711 : Int)], [Value.int IntKind.u32 (113926993 : Int)], [Value.int IntKind.u32 (338241895 : Int)], [Value.int IntKind.u32 (666307205 : Int)], [Value.int IntKind.u32 (773529912 : Int)], [Value.int IntKind.u32 (1294757372 : Int)], [Value.int IntKind.u32 (1396182291 : Int)], [Value.int IntKind.u32 (1695183700 : Int)], [Value.int IntKind.u32 (1986661051 : Int)], [Value.int IntKind.u32 (2177026350 : Int)], [Value.int IntKind.u32 (2456956037 : Int)], [Value.int IntKind.u32 (2730485921 : Int)], [Value.int IntKind.u32 (2820302411 : Int)], [Value.int IntKind.u32 (3259730800 : Int)], [Value.int IntKind.u32 (3345764771 : Int)], [Value.int IntKind.u32 (3516065817 : Int)], [Value.int IntKind.u32 (3600352804 : Int)], [Value.int IntKind.u32 (4094571909 : Int)], [Value.int IntKind.u32 (275423344 : Int)], [Value.int IntKind.u32 (430227734 : Int)], [Value.int IntKind.u32 (506948616 : Int)], [Value.int IntKind.u32 (659060556 : Int)], [Value.int IntKind.u32 (883997877 : Int)], [Value.int IntKind.u32 (958139571 : Int)], [Value.int IntKind.u32 (1322822218 : Int)], [Value.int IntKind.u32 (1537002063 : Int)], [Value.int IntKind.u32 (1747873779 : Int)], [Value.int IntKind.u32 (1955562222 : Int)], [Value.int IntKind.u32 (2024104815 : Int)], [Value.int IntKind.u32 (2227730452 : Int)], [Value.int IntKind.u32 (2361852424 : Int)], [Value.int IntKind.u32 (2428436474 : Int)], [Value.int IntKind.u32 (2756734187 : Int)], [Value.int IntKind.u32 (3204031479 : Int)], [Value.int IntKind.u32 (3329325298 : Int)]] (1 : Nat) true))) = _) ?_
  refine HQ _ _ ⟨.push hw _, hw.push _, rfl, _, AHeap.get_push_eq, rfl, ?_⟩
  intro row hm
  simp only [List.mem_cons, List.not_mem_nil, or_false] at hm
  repeat' first | (rcases hm with rfl | hm; exact ⟨_, rfl⟩) | (subst hm; exact ⟨_, rfl⟩)
end Go.Proofs.Ytanienlcebkijaa
end
