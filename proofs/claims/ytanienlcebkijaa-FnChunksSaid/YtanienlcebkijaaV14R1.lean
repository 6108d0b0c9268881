/- L1, L2, C3, G1, C9, F1, F2, F3, F4, F5, F6, A30, A31, J1, H1, H2, S1, R1. -/
import Derived.Test.YtanienlcebkijaaV14C2
import Derived.Carry
section
namespace Go.Dat
open Go.Abs
def srcO (a : Option Addr) (n c : Nat) (at_ mix size : Int) : AObj := ⟨[[.slice a n c, .int .i64 at_, .int .u64 mix, .int .i64 size]], 4, true⟩
structure Src (h : AHeap) (l : Nat) (bs : List Sh.byte.T) (a : Option Addr) (n c : Nat) : Prop where
  wf : h.wf
  bytes : Sl h Sh.byte bs (.slice a n c)
  ok : (Sh.sl Sh.byte).ok bs
  obj : ∃ at_ mix size : Int, h.get l = some (srcO a n c at_ mix size) ∧ (0 ≤ at_ ∧ at_ ≤ n) ∧ (0 ≤ mix ∧ mix < 18446744073709551616) ∧ (0 ≤ size ∧ size ≤ 12)
theorem src0 {g : AHeap} {l : Nat} {a : Option Addr} {n c : Nat} {at_ mix size : Int} (hg : g.get l = some (srcO a n c at_ mix size)) : g.ld l 0 0 1 = some [.slice a n c] := by unfold AHeap.ld; rw [hg]; rfl
theorem src1 {g : AHeap} {l : Nat} {a : Option Addr} {n c : Nat} {at_ mix size : Int} (hg : g.get l = some (srcO a n c at_ mix size)) : g.ld l 0 1 1 = some [.int .i64 at_] := by unfold AHeap.ld; rw [hg]; rfl
theorem src2 {g : AHeap} {l : Nat} {a : Option Addr} {n c : Nat} {at_ mix size : Int} (hg : g.get l = some (srcO a n c at_ mix size)) : g.ld l 0 2 1 = some [.int .u64 mix] := by unfold AHeap.ld; rw [hg]; rfl
theorem srcw1 {g : AHeap} {l : Nat} {a : Option Addr} {n c : Nat} {at_ mix size : Int} (v : Int) (hg : g.get l = some (srcO a n c at_ mix size)) : g.wr l 0 1 [.int .i64 v] = some (g.put l (some (srcO a n c v mix size))) := by unfold AHeap.wr; rw [hg]; rfl
theorem srcw2 {g : AHeap} {l : Nat} {a : Option Addr} {n c : Nat} {at_ mix size : Int} (v : Int) (hg : g.get l = some (srcO a n c at_ mix size)) : g.wr l 0 2 [.int .u64 v] = some (g.put l (some (srcO a n c at_ v size))) := by unfold AHeap.wr; rw [hg]; rfl
theorem put_put {g : AHeap} {l : Nat} {x y : Option AObj} : (g.put l x).put l y = g.put l y := by
  unfold AHeap.put
  congr 1
  funext z
  dsimp only
  split <;> rfl
theorem u64_wrap_bd (n : Int) : 0 ≤ IntKind.u64.wrap n ∧ IntKind.u64.wrap n < 18446744073709551616 := by
  have e : IntKind.u64.wrap n = if (false && decide (n % 18446744073709551616 ≥ 9223372036854775808)) = true then n % 18446744073709551616 - 18446744073709551616 else n % 18446744073709551616 := rfl
  rw [e]; simp; omega
theorem draw_bd {x most : Int} (hm : 1 < most ∧ most ≤ 9223372036854775807) : 0 ≤ IntKind.i64.wrap (Int.tmod (IntKind.u64.wrap x) (IntKind.u64.wrap most)) ∧ IntKind.i64.wrap (Int.tmod (IntKind.u64.wrap x) (IntKind.u64.wrap most)) < most := by
  have e : IntKind.u64.wrap most = most := by
    have e : IntKind.u64.wrap most = if (false && decide (most % 18446744073709551616 ≥ 9223372036854775808)) = true then most % 18446744073709551616 - 18446744073709551616 else most % 18446744073709551616 := rfl
    rw [e]; simp; omega
  have h1 := (u64_wrap_bd x).1
  have h2 : Int.tmod (IntKind.u64.wrap x) most = IntKind.u64.wrap x % most := Int.tmod_eq_emod_of_nonneg h1
  have h3 := Int.emod_nonneg (IntKind.u64.wrap x) (show most ≠ 0 by omega)
  have h4 := Int.emod_lt_of_pos (IntKind.u64.wrap x) (show 0 < most by omega)
  rw [e, h2, wrap_i64 (by omega)]
  exact ⟨h3, h4⟩
end Go.Dat
namespace Go.Proofs.Ytanienlcebkijaa
open Go.Abs Go.Dat
set_option maxRecDepth 100000
set_option maxHeartbeats 8000000
theorem srcN_spec (h : AHeap) (l : Nat) (bs : List Sh.byte.T) (a : Option Addr) (n c : Nat) (s : Src h l bs a n c) (most : Int) (hm : -9223372036854775808 ≤ most ∧ most ≤ 9223372036854775807) :
    ∃ v h', ACall Try.prog 69 [.pointer (some ⟨l, 0, some 0⟩), .int .i64 most] h v h' ∧ ∃ r : Int, v = .int .i64 r ∧ 0 ≤ r ∧ (most ≤ 1 → r = 0) ∧ (1 < most → r < most) ∧ But l h h' ∧ (∃ at_ mix size : Int, h'.get l = some (srcO a n c at_ mix size) ∧ (0 ≤ at_ ∧ at_ ≤ n) ∧ (0 ≤ mix ∧ mix < 18446744073709551616) ∧ (0 ≤ size ∧ size ≤ 12)) ∧ h'.wf := by
  obtain ⟨at_, mix, size, hg, h1, h2, h3⟩ := s.obj
  refine acall_q fun Q HQ => ?_
  refine acall_vc (fun _ => false) (fun r => match r with | 4 => [(0, 0, []), (1, 0, []), (2, 0, []), (4, 0, []), (5, 0, []), (6, 0, []), (3, 1, []), (7, 1, []), (8, 0, []), (9, 0, [])] | 5 => [(0, 0, []), (1, 0, []), (2, 0, []), (4, 0, []), (5, 0, []), (6, 0, []), (3, 1, []), (7, 1, []), (8, 0, []), (9, 1, []), (10, 0, []), (11, 0, [])] | 7 => [(0, 0, []), (1, 0, []), (2, 0, []), (3, 0, []), (5, 0, []), (6, 0, []), (7, 0, []), (4, 1, []), (8, 1, []), (9, 0, []), (10, 0, []), (11, 0, []), (12, 0, []), (13, 3, [])] | 8 => [(0, 0, []), (1, 0, []), (2, 0, []), (3, 0, []), (5, 0, []), (6, 0, []), (7, 0, []), (4, 1, []), (8, 1, []), (9, 0, []), (10, 0, []), (11, 0, []), (12, 0, []), (13, 3, [])] | 9 => [(0, 0, []), (1, 0, []), (2, 0, []), (3, 0, []), (5, 0, []), (6, 0, []), (7, 0, []), (4, 1, []), (8, 1, []), (9, 0, []), (10, 0, []), (11, 0, []), (12, 0, []), (13, 3, [])] | _ => []) (fun _ => .none) mixed Try.func69 rfl rfl rfl (Nat.le_of_ble_eq_true rfl) (by refine vc_mp (by kernel_rfl : (True ∧ (True ∧ (True ∧ True) ∧ True) ∧ True ∧ (True ∧ (True ∧ True) ∧ True) ∧ True ∧ True ∧ True ∧ True ∧ True) = _) ?_; simp only [and_self]) ?_
  have hne : 1 < most → IntKind.u64.wrap most ≠ 0 := fun hlt => by
    have e : IntKind.u64.wrap most = if (false && decide (most % 18446744073709551616 ≥ 9223372036854775808)) = true then most % 18446744073709551616 - 18446744073709551616 else most % 18446744073709551616 := rfl
    rw [e]; simp; omega
  have hll := s.wf.lt hg
  have fin : ∀ (x at2 mix2 : Int), 1 < most → (0 ≤ at2 ∧ at2 ≤ n) → (0 ≤ mix2 ∧ mix2 < 18446744073709551616) → Q (.int .i64 (IntKind.i64.wrap (Int.tmod (IntKind.u64.wrap x) (IntKind.u64.wrap most)))) (h.put l (some (srcO a n c at2 mix2 size))) := fun x at2 mix2 hlt ha hm2 => by
    have hd := draw_bd (x := x) (most := most) ⟨hlt, hm.2⟩
    exact HQ _ _ ⟨_, rfl, hd.1, fun h => by omega, fun _ => hd.2, ⟨Nat.le_refl _, fun z o hz ho => by show (h.put l _).get z = some o; rw [AHeap.get_put_ne hz]; exact ho⟩, ⟨at2, mix2, size, AHeap.get_put_eq, ha, hm2, h3⟩, s.wf.put hll _⟩
  refine vc_mp (by kernel_rfl : (Abs.bs (decide (most ≤ (1 : Int))) (Q (Value.int IntKind.i64 (0 : Int)) h) (∃ (x : Int), AHeap.ld h l (0 : Nat) (1 : Nat) (1 : Nat) = some [Value.int IntKind.i64 x] ∧ ∃ (a : Option Addr), ∃ (n : Nat), ∃ (c : Nat), AHeap.ld h l (0 : Nat) (0 : Nat) (1 : Nat) = some [Value.slice a n c] ∧ Abs.bs (decide (x < (↑n : Int))) (∃ (a : Option Addr), ∃ (n : Nat), ∃ (c : Nat), AHeap.ld h l (0 : Nat) (0 : Nat) (1 : Nat) = some [Value.slice a n c] ∧ ∃ (x : Int), AHeap.ld h l (0 : Nat) (1 : Nat) (1 : Nat) = some [Value.int IntKind.i64 x] ∧ ∃ (l_1 : Nat), ∃ (r : Nat), a = some (Addr.mk l_1 r (some (1 : Nat))) ∧ (0 : Int) ≤ x ∧ x < (↑n : Int) ∧ ∃ (x_1 : Int), AHeap.ld h l_1 (r + Int.toNat x) (0 : Nat) (1 : Nat) = some [Value.int IntKind.u8 x_1] ∧ ∃ (x : Int), AHeap.ld h l (0 : Nat) (1 : Nat) (1 : Nat) = some [Value.int IntKind.i64 x] ∧ ∃ (h' : AHeap), AHeap.wr h l (0 : Nat) (1 : Nat) [Value.int IntKind.i64 (IntKind.wrap IntKind.i64 (x + (1 : Int)))] = some h' ∧ ∃ (x : Int), AHeap.ld h' l (0 : Nat) (2 : Nat) (1 : Nat) = some [Value.int IntKind.u64 x] ∧ ∃ (x_2 : Int), AHeap.ld h' l (0 : Nat) (2 : Nat) (1 : Nat) = some [Value.int IntKind.u64 x_2] ∧ (0 : Int) ≤ (13 : Int) ∧ ∃ (h'_1 : AHeap), AHeap.wr h' l (0 : Nat) (2 : Nat) [Value.int IntKind.u64 (IntKind.wrap IntKind.u64 (↑(BitVec.toNat (BitVec.ofInt (IntKind.bits IntKind.u64) x ^^^ BitVec.ofInt (IntKind.bits IntKind.u64) (IntKind.wrap IntKind.u64 (x_2 * (2 : Int) ^ min (Int.toNat (13 : Int)) (IntKind.bits IntKind.u64))))) : Int))] = some h'_1 ∧ ∃ (x : Int), AHeap.ld h'_1 l (0 : Nat) (2 : Nat) (1 : Nat) = some [Value.int IntKind.u64 x] ∧ ∃ (x_3 : Int), AHeap.ld h'_1 l (0 : Nat) (2 : Nat) (1 : Nat) = some [Value.int IntKind.u64 x_3] ∧ (0 : Int) ≤ (7 : Int) ∧ ∃ (h' : AHeap), AHeap.wr h'_1 l (0 : Nat) (2 : Nat) [Value.int IntKind.u64 (IntKind.wrap IntKind.u64 (↑(BitVec.toNat (BitVec.ofInt (IntKind.bits IntKind.u64) x ^^^ BitVec.ofInt (IntKind.bits IntKind.u64) (Int.fdiv x_3 ((2 : Int) ^ min (Int.toNat (7 : Int)) (IntKind.bits IntKind.u64))))) : Int))] = some h' ∧ ∃ (x : Int), AHeap.ld h' l (0 : Nat) (2 : Nat) (1 : Nat) = some [Value.int IntKind.u64 x] ∧ ∃ (x_4 : Int), AHeap.ld h' l (0 : Nat) (2 : Nat) (1 : Nat) = some [Value.int IntKind.u64 x_4] ∧ (0 : Int) ≤ (17 : Int) ∧ ∃ (h'_2 : AHeap), AHeap.wr h' l (0 : Nat) (2 : Nat) [Value.int IntKind.u64 (IntKind.wrap IntKind.u64 (↑(BitVec.toNat (BitVec.ofInt (IntKind.bits IntKind.u64) x ^^^ BitVec.ofInt (IntKind.bits IntKind.u64) (IntKind.wrap IntKind.u64 (x_4 * (2 : Int) ^ min (Int.toNat (17 : Int)) (IntKind.bits IntKind.u64))))) : Int))] = some h'_2 ∧ ∃ (x : Int), AHeap.ld h'_2 l (0 : Nat) (2 : Nat) (1 : Nat) = some [Value.int IntKind.u64 x] ∧ (0 : Int) ≤ (20 : Int) ∧ IntKind.wrap IntKind.u64 most ≠ (0 : Int) ∧ Q (Value.int IntKind.i64 (IntKind.wrap IntKind.i64 (Int.tmod (IntKind.wrap IntKind.u64 (IntKind.wrap IntKind.u64 x_1 + Int.fdiv x ((2 : Int) ^ min (Int.toNat (20 : Int)) (IntKind.bits IntKind.u64)))) (IntKind.wrap IntKind.u64 most)))) h'_2) (∃ (x : Int), AHeap.ld h l (0 : Nat) (2 : Nat) (1 : Nat) = some [Value.int IntKind.u64 x] ∧ ∃ (x_1 : Int), AHeap.ld h l (0 : Nat) (2 : Nat) (1 : Nat) = some [Value.int IntKind.u64 x_1] ∧ (0 : Int) ≤ (13 : Int) ∧ ∃ (h' : AHeap), AHeap.wr h l (0 : Nat) (2 : Nat) [Value.int IntKind.u64 (IntKind.wrap IntKind.u64 (↑(BitVec.toNat (BitVec.ofInt (IntKind.bits IntKind.u64) x ^^^ BitVec.ofInt (IntKind.bits IntKind.u64) (IntKind.wrap IntKind.u64 (x_1 * (2 : Int) ^ min (Int.toNat (13 : Int)) (IntKind.bits IntKind.u64))))) : Int))] = some h' ∧ ∃ (x : Int), AHeap.ld h' l (0 : Nat) (2 : Nat) (1 : Nat) = some [Value.int IntKind.u64 x] ∧ ∃ (x_2 : Int), AHeap.ld h' l (0 : Nat) (2 : Nat) (1 : Nat) = some [Value.int IntKind.u64 x_2] ∧ (0 : Int) ≤ (7 : Int) ∧ ∃ (h'_1 : AHeap), AHeap.wr h' l (0 : Nat) (2 : Nat) [Value.int IntKind.u64 (IntKind.wrap IntKind.u64 (↑(BitVec.toNat (BitVec.ofInt (IntKind.bits IntKind.u64) x ^^^ BitVec.ofInt (IntKind.bits IntKind.u64) (Int.fdiv x_2 ((2 : Int) ^ min (Int.toNat (7 : Int)) (IntKind.bits IntKind.u64))))) : Int))] = some h'_1 ∧ ∃ (x : Int), AHeap.ld h'_1 l (0 : Nat) (2 : Nat) (1 : Nat) = some [Value.int IntKind.u64 x] ∧ ∃ (x_3 : Int), AHeap.ld h'_1 l (0 : Nat) (2 : Nat) (1 : Nat) = some [Value.int IntKind.u64 x_3] ∧ (0 : Int) ≤ (17 : Int) ∧ ∃ (h' : AHeap), AHeap.wr h'_1 l (0 : Nat) (2 : Nat) [Value.int IntKind.u64 (IntKind.wrap IntKind.u64 (↑(BitVec.toNat (BitVec.ofInt (IntKind.bits IntKind.u64) x ^^^ BitVec.ofInt (IntKind.bits IntKind.u64) (IntKind.wrap IntKind.u64 (x_3 * (2 : Int) ^ min (Int.toNat (17 : Int)) (IntKind.bits IntKind.u64))))) : Int))] = some h' ∧ ∃ (x : Int), AHeap.ld h' l (0 : Nat) (2 : Nat) (1 : Nat) = some [Value.int IntKind.u64 x] ∧ (0 : Int) ≤ (20 : Int) ∧ IntKind.wrap IntKind.u64 most ≠ (0 : Int) ∧ Q (Value.int IntKind.i64 (IntKind.wrap IntKind.i64 (Int.tmod (IntKind.wrap IntKind.u64 ((0 : Int) + Int.fdiv x ((2 : Int) ^ min (Int.toNat (20 : Int)) (IntKind.bits IntKind.u64)))) (IntKind.wrap IntKind.u64 most)))) h'))) = _) ?_
  refine bs_d (fun e => HQ _ _ ⟨0, rfl, by omega, fun _ => rfl, fun h => by omega, ⟨Nat.le_refl _, fun _ _ _ e => e⟩, s.obj, s.wf⟩) (fun e => ?_)
  refine ⟨_, src1 hg, _, _, _, src0 hg, bs_d (fun e2 => ?_) (fun e2 => ?_)⟩
  · have en := s.bytes.len
    have hio : at_.toNat < bs.length := by omega
    obtain ⟨b, hat⟩ : ∃ y : Int, bs[at_.toNat]? = some y := ⟨_, List.getElem?_eq_getElem hio⟩
    obtain ⟨l2, r2, row, ha, _, hrd, hld⟩ := s.bytes.elem hat
    obtain rfl : row = [.int .u8 b] := hrd
    have ea : IntKind.i64.wrap (at_ + 1) = at_ + 1 := wrap_i64 (by have := s.ok.1; have : bs.length ≤ 9223372036854775807 := s.ok.1; omega)
    refine ⟨_, _, _, src0 hg, _, src1 hg, l2, r2, ha, h1.1, e2, _, hld, _, src1 hg, _, srcw1 _ hg, ?_⟩
    refine ⟨_, src2 AHeap.get_put_eq, _, src2 AHeap.get_put_eq, by omega, _, srcw2 _ AHeap.get_put_eq, _, src2 AHeap.get_put_eq, _, src2 AHeap.get_put_eq, by omega, _, srcw2 _ AHeap.get_put_eq, _, src2 AHeap.get_put_eq, _, src2 AHeap.get_put_eq, by omega, _, srcw2 _ AHeap.get_put_eq, _, src2 AHeap.get_put_eq, by omega, hne (by omega), ?_⟩
    rw [put_put, put_put, put_put]
    exact fin _ _ _ (by omega) (by rw [ea]; omega) (u64_wrap_bd _)
  · refine ⟨_, src2 hg, _, src2 hg, by omega, _, srcw2 _ hg, _, src2 AHeap.get_put_eq, _, src2 AHeap.get_put_eq, by omega, _, srcw2 _ AHeap.get_put_eq, _, src2 AHeap.get_put_eq, _, src2 AHeap.get_put_eq, by omega, _, srcw2 _ AHeap.get_put_eq, _, src2 AHeap.get_put_eq, by omega, hne (by omega), ?_⟩
    rw [put_put, put_put]
    exact fin _ _ _ (by omega) h1 (u64_wrap_bd _)
end Go.Proofs.Ytanienlcebkijaa
end
section
namespace Go.Dat
open Go.Abs
structure Drawn (h h' : AHeap) (l : Nat) (bs : List Sh.byte.T) (a : Option Addr) (n c : Nat) : Prop where
  but_n : h.n ≤ h'.n
  but : ∀ x o, x ≠ l → h.get x = some o → h'.get x = some o
  src : Src h' l bs a n c
theorem push_put' {h : AHeap} {o o' : AObj} : (h.push o).put h.n (some o') = h.push o' := by
  unfold AHeap.push AHeap.put
  congr 1
  funext x
  dsimp only
  split <;> rfl
theorem srcw3 {g : AHeap} {l : Nat} {a : Option Addr} {n c : Nat} {at_ mix size : Int} (v : Int) (hg : g.get l = some (srcO a n c at_ mix size)) : g.wr l 0 3 [.int .i64 v] = some (g.put l (some (srcO a n c at_ mix v))) := by unfold AHeap.wr; rw [hg]; rfl
theorem src3 {g : AHeap} {l : Nat} {a : Option Addr} {n c : Nat} {at_ mix size : Int} (hg : g.get l = some (srcO a n c at_ mix size)) : g.ld l 0 3 1 = some [.int .i64 size] := by unfold AHeap.ld; rw [hg]; rfl
end Go.Dat
namespace Go.Proofs.Ytanienlcebkijaa
open Go.Abs Go.Dat
set_option maxRecDepth 100000
set_option maxHeartbeats 8000000
theorem But.sl {l : Nat} {h h' : AHeap} (b : But l h h') {s : Sh} {xs : List s.T} {a : Option Addr} {n c : Nat} (hx : Sl h s xs (.slice a n c)) (ih : ∀ (i : Nat) (x : s.T) (row : List Value), s.rd h x row → s.rd h' x row) (hne : ∀ l2 r, a = some ⟨l2, r, some s.cells⟩ → l2 ≠ l) : Sl h' s xs (.slice a n c) := by
  obtain ⟨a', n', c', rows, e, h1, h2, h3, h4⟩ := hx
  cases e
  refine ⟨a, n, c, rows, rfl, h1, ?_, h3, fun i x row hx hr => ih i x row (h4 i x row hx hr)⟩
  rcases h1 with ⟨rfl, rfl, rfl⟩ | ⟨l2, r, rfl⟩
  · exact h2
  · have := hne l2 r rfl
    unfold AHeap.rowsOf at h2 ⊢
    dsimp only at h2 ⊢
    split at h2
    · rename_i o ho
      rw [b.get l2 o this ho]; exact h2
    · cases h2
theorem draw_n (h : AHeap) (l : Nat) (bytes : List Sh.byte.T) (a : Option Addr) (n c : Nat) (s : Src h l bytes a n c) (hne : ∀ l2 r, a = some ⟨l2, r, some 1⟩ → l2 ≠ l) (most : Int) (hm : -9223372036854775808 ≤ most ∧ most ≤ 9223372036854775807) :
    ∃ (r : Int) (h' : AHeap), ACall Try.prog 69 [.pointer (some ⟨l, 0, some 0⟩), .int .i64 most] h (.int .i64 r) h' ∧ 0 ≤ r ∧ (most ≤ 1 → r = 0) ∧ (1 < most → r < most) ∧ Drawn h h' l bytes a n c := by
  obtain ⟨_, h', hA, r, rfl, h1, h2, h3, hb, ho, hw⟩ := srcN_spec h l bytes a n c s most hm
  exact ⟨r, h', hA, h1, h2, h3, hb.n, hb.get, hw, hb.sl s.bytes (fun _ _ _ hr => hr) hne, s.ok, ho⟩
theorem draw_one (h : AHeap) (l : Nat) (bytes : List Sh.byte.T) (a : Option Addr) (n c : Nat) (s : Src h l bytes a n c) (hne : ∀ l2 r, a = some ⟨l2, r, some 1⟩ → l2 ≠ l) (of : Int) (hm : -9223372036854775808 ≤ of ∧ of ≤ 9223372036854775807) :
    ∃ (r : Bool) (h' : AHeap), ACall Try.prog 66 [.pointer (some ⟨l, 0, some 0⟩), .int .i64 of] h (.bool r) h' ∧ Drawn h h' l bytes a n c := by
  obtain ⟨r, h', hA, _, _, _, hd⟩ := draw_n h l bytes a n c s hne of hm
  have : ∃ v g, ACall Try.prog 66 [.pointer (some ⟨l, 0, some 0⟩), .int .i64 of] h v g ∧ v = .bool (decide (r = 0)) ∧ g = h' := by
    refine acall_vc (fun _ => false) (fun _ => []) (fun _ => .none) mixed Try.func66 rfl rfl rfl (Nat.le_of_ble_eq_true rfl) (by refine vc_mp (by kernel_rfl : (True ∧ True ∧ True) = _) ?_; simp only [and_self]) ?_
    refine vc_mp (by kernel_rfl : (∃ (x : Int), ∃ (h'_1 : AHeap), ACall Try.prog (69 : Nat) [Value.pointer (some (Addr.mk l (0 : Nat) (some (0 : Nat)))), Value.int IntKind.i64 of] h (Value.int IntKind.i64 x) h'_1 ∧ Value.bool (decide (x = (0 : Int))) = Value.bool (decide (r = (0 : Int))) ∧ h'_1 = h') = _) ?_
    exact ⟨_, _, hA, rfl, rfl⟩
  obtain ⟨_, _, hB, rfl, rfl⟩ := this
  exact ⟨_, _, hB, hd⟩
def l1L (h : AHeap) (a : Option Addr) (n c : Nat) : LSpec where
  ι := Nat × Int
  κ := Int
  I := fun i => i.1 ≤ n ∧ 0 ≤ i.2 ∧ i.2 < 18446744073709551616
  μ := fun i => n - i.1
  head := fun i => ⟨[(0, .slice a n c), (3, .pointer (some ⟨h.n, 0, some 0⟩)), (4, .int .i64 i.1)], [], h.push (srcO a n c 0 i.2 0)⟩
  post := fun j => ⟨[(0, .slice a n c), (3, .pointer (some ⟨h.n, 0, some 0⟩))], [], h.push (srcO a n c 0 j 0)⟩
  R := fun _ j => 0 ≤ j ∧ j < 18446744073709551616
  ret := fun _ _ _ => False
theorem l01Source_spec (h : AHeap) (hw : h.wf) (a : Option Addr) (n c : Nat) (bytes : List Sh.byte.T) (hx : Sl h Sh.byte bytes (.slice a n c)) (ok : (Sh.sl Sh.byte).ok bytes) :
    ∃ v h', ACall Try.prog 65 [.slice a n c] h v h' ∧ h.Le h' ∧ v = .pointer (some ⟨h.n, 0, some 0⟩) ∧ Src h' h.n bytes a n c := by
  have en := hx.len
  have hn : n ≤ 9223372036854775807 := by rw [← en]; exact ok.1
  refine acall_q fun Q HQ => ?_
  refine acall_vc (fun t => t == 7) (fun r => match r with | 5 => [(0, 0, []), (1, 0, []), (2, 0, []), (3, 0, []), (5, 0, []), (6, 0, []), (7, 0, []), (4, 1, []), (8, 1, []), (9, 0, []), (10, 0, []), (11, 0, []), (12, 0, []), (13, 0, []), (14, 3, [])] | _ => []) (fun _ => l1L h a n c) mixed Try.func65 rfl rfl rfl (Nat.le_of_ble_eq_true rfl) ?_ ?_
  · refine vc_mp (by kernel_rfl : (True ∧ True ∧ (True ∧ (∀ (i : Nat × Int), Prod.fst i ≤ n ∧ (0 : Int) ≤ Prod.snd i ∧ Prod.snd i < (18446744073709551616 : Int) → bs (decide ((↑(Prod.fst i) : Int) < (↑n : Int))) (bs (decide ((↑(Prod.fst i) : Int) < (64 : Int))) (∃ (l : Nat), ∃ (r : Nat), a = some (Addr.mk l r (some (1 : Nat))) ∧ (0 : Int) ≤ (↑(Prod.fst i) : Int) ∧ (↑(Prod.fst i) : Int) < (↑n : Int) ∧ ∃ (x : Int), AHeap.ld (AHeap.push h (srcO a n c (0 : Int) (Prod.snd i) (0 : Int))) (AHeap.n h) (0 : Nat) (2 : Nat) (1 : Nat) = some [Value.int IntKind.u64 x] ∧ ∃ (x_1 : Int), AHeap.ld (AHeap.push h (srcO a n c (0 : Int) (Prod.snd i) (0 : Int))) l (r + Int.toNat (↑(Prod.fst i) : Int)) (0 : Nat) (1 : Nat) = some [Value.int IntKind.u8 x_1] ∧ ∃ (h' : AHeap), AHeap.wr (AHeap.push h (srcO a n c (0 : Int) (Prod.snd i) (0 : Int))) (AHeap.n h) (0 : Nat) (2 : Nat) [Value.int IntKind.u64 (IntKind.wrap IntKind.u64 (IntKind.wrap IntKind.u64 (↑(BitVec.toNat (BitVec.ofInt (IntKind.bits IntKind.u64) x ^^^ BitVec.ofInt (IntKind.bits IntKind.u64) (IntKind.wrap IntKind.u64 x_1))) : Int) * (1099511628211 : Int)))] = some h' ∧ ∃ (j : Nat × Int), Value.slice a n c = Value.slice a n c ∧ Value.pointer (some (Addr.mk (AHeap.n h) (0 : Nat) (some (0 : Nat)))) = Value.pointer (some (Addr.mk (AHeap.n h) (0 : Nat) (some (0 : Nat)))) ∧ Value.int IntKind.i64 (IntKind.wrap IntKind.i64 ((↑(Prod.fst i) : Int) + (1 : Int))) = Value.int IntKind.i64 (↑(Prod.fst j) : Int) ∧ AHeap.push h (srcO a n c (0 : Int) (Prod.snd j) (0 : Int)) = h' ∧ (Prod.fst j ≤ n ∧ (0 : Int) ≤ Prod.snd j ∧ Prod.snd j < (18446744073709551616 : Int)) ∧ n - Prod.fst j < n - Prod.fst i ∧ (∀ (k : Int), (0 : Int) ≤ k ∧ k < (18446744073709551616 : Int) → (0 : Int) ≤ k ∧ k < (18446744073709551616 : Int)) ∧ ∀ (v : Value) (h : AHeap), False → False) (∃ (j : Int), Value.slice a n c = Value.slice a n c ∧ Value.pointer (some (Addr.mk (AHeap.n h) (0 : Nat) (some (0 : Nat)))) = Value.pointer (some (Addr.mk (AHeap.n h) (0 : Nat) (some (0 : Nat)))) ∧ AHeap.push h (srcO a n c (0 : Int) j (0 : Int)) = AHeap.push h (srcO a n c (0 : Int) (Prod.snd i) (0 : Int)) ∧ (0 : Int) ≤ j ∧ j < (18446744073709551616 : Int))) (∃ (j : Int), Value.slice a n c = Value.slice a n c ∧ Value.pointer (some (Addr.mk (AHeap.n h) (0 : Nat) (some (0 : Nat)))) = Value.pointer (some (Addr.mk (AHeap.n h) (0 : Nat) (some (0 : Nat)))) ∧ AHeap.push h (srcO a n c (0 : Int) j (0 : Int)) = AHeap.push h (srcO a n c (0 : Int) (Prod.snd i) (0 : Int)) ∧ (0 : Int) ≤ j ∧ j < (18446744073709551616 : Int))) ∧ (True ∧ True ∧ True) ∧ True ∧ True) ∧ True ∧ (True ∧ True ∧ True) ∧ True ∧ True) = _) ?_
    simp only [true_and, and_true]
    rintro ⟨i, mix⟩ ⟨hi, hm⟩
    dsimp only at *
    refine bs_d (fun hlt => ?_) (fun hge => ⟨mix, rfl, hm⟩)
    refine bs_d (fun h64 => ?_) (fun hge => ⟨mix, rfl, hm⟩)
    have hio : i < bytes.length := by omega
    obtain ⟨b, hat⟩ : ∃ y : Int, bytes[i]? = some y := ⟨_, List.getElem?_eq_getElem hio⟩
    obtain ⟨l, r, row, ha, _, hrd, hld⟩ := (hx.mono (.push hw (srcO a n c 0 mix 0))).elem hat
    obtain rfl : row = [.int .u8 b] := hrd
    refine ⟨l, r, ha, Int.natCast_nonneg _, hlt, _, src2 AHeap.get_push_eq, _, hld, _, srcw2 _ AHeap.get_push_eq, (i + 1, _), by rw [wrap_i64 (by omega)]; rfl, push_put'.symm, ⟨by dsimp only; omega, u64_wrap_bd _⟩, by dsimp only; omega, fun _ h => h, fun _ _ h => h⟩
  refine vc_mp (by kernel_rfl : (∃ (i : Nat × Int), Value.slice a n c = Value.slice a n c ∧ Value.pointer (some (Addr.mk (AHeap.n h) (0 : Nat) (some (0 : Nat)))) = Value.pointer (some (Addr.mk (AHeap.n h) (0 : Nat) (some (0 : Nat)))) ∧ Value.int IntKind.i64 (0 : Int) = Value.int IntKind.i64 (↑(Prod.fst i) : Int) ∧ AHeap.push h (srcO a n c (0 : Int) (Prod.snd i) (0 : Int)) = AHeap.push h (AObj.mk [[Value.slice a n c, Value.int IntKind.i64 (Int.ofNat (0 : Nat)), Value.int IntKind.u64 (88172645463325252 : Int), Value.int IntKind.i64 (Int.ofNat (0 : Nat))]] (4 : Nat) true) ∧ (Prod.fst i ≤ n ∧ (0 : Int) ≤ Prod.snd i ∧ Prod.snd i < (18446744073709551616 : Int)) ∧ (∀ (j : Int), (0 : Int) ≤ j ∧ j < (18446744073709551616 : Int) → (20 : Int) ≠ (0 : Int) ∧ ∃ (h' : AHeap), AHeap.wr (AHeap.push h (srcO a n c (0 : Int) j (0 : Int))) (AHeap.n h) (0 : Nat) (3 : Nat) [Value.int IntKind.i64 (IntKind.wrap IntKind.i64 (Int.tdiv (↑n : Int) (20 : Int)))] = some h' ∧ ∃ (x : Int), AHeap.ld h' (AHeap.n h) (0 : Nat) (3 : Nat) (1 : Nat) = some [Value.int IntKind.i64 x] ∧ bs (decide (x > (12 : Int))) (∃ (h'_1 : AHeap), AHeap.wr h' (AHeap.n h) (0 : Nat) (3 : Nat) [Value.int IntKind.i64 (12 : Int)] = some h'_1 ∧ Q (Value.pointer (some (Addr.mk (AHeap.n h) (0 : Nat) (some (0 : Nat))))) h'_1) (Q (Value.pointer (some (Addr.mk (AHeap.n h) (0 : Nat) (some (0 : Nat))))) h')) ∧ ∀ (v : Value) (h : AHeap), False → Q v h) = _) ?_
  have fin : ∀ (mix size : Int), (0 ≤ mix ∧ mix < 18446744073709551616) → (0 ≤ size ∧ size ≤ 12) → Q (.pointer (some ⟨h.n, 0, some 0⟩)) (h.push (srcO a n c 0 mix size)) := fun mix size hm hs =>
    HQ _ _ ⟨.push hw _, rfl, hw.push _, hx.mono (.push hw _), ok, ⟨0, mix, size, AHeap.get_push_eq, by omega, hm, hs⟩⟩
  refine ⟨(0, 88172645463325252), rfl, rfl, rfl, rfl, ⟨Nat.zero_le _, by dsimp only; omega, by dsimp only; omega⟩, fun mix hm => ⟨by omega, _, srcw3 _ AHeap.get_push_eq, ?_⟩, fun _ _ h => h.elim⟩
  rw [push_put']
  have e1 : Int.tdiv (n : Int) 20 = (n : Int) / 20 := Int.tdiv_eq_ediv_of_nonneg (by omega)
  refine ⟨_, src3 AHeap.get_push_eq, ?_⟩
  rw [e1, wrap_i64 (by omega)]
  refine bs_d (fun e => ⟨_, srcw3 _ AHeap.get_push_eq, ?_⟩) (fun e => fin _ _ hm (by omega))
  rw [push_put']
  exact fin _ _ hm (by omega)
end Go.Proofs.Ytanienlcebkijaa
end
section
namespace Go.Proofs.Ytanienlcebkijaa
open Go.Abs Go.Dat
set_option maxRecDepth 100000
theorem within_spec (n lo hi : Int) (h : AHeap) : ACall Try.prog 76 [.int .i64 n, .int .i64 lo, .int .i64 hi] h (.bool (decide (lo ≤ n) && decide (n ≤ hi))) h := by
  refine acall_out (acall_by (fun _ => true) (fun _ => []) (fun _ => .none) mixed Try.func76 rfl rfl rfl (Nat.le_of_ble_eq_true rfl) ⟨trivial, trivial, trivial⟩ ?_)
  refine Eq.mp (by kernel_rfl : (bs (decide (n ≥ lo)) (Value.bool (decide (n ≤ hi)) = Value.bool (decide (lo ≤ n) && decide (n ≤ hi)) ∧ h = h) (Value.bool false = Value.bool (decide (lo ≤ n) && decide (n ≤ hi)) ∧ h = h)) = _) ?_
  refine bs_dec (fun e => ?_) (fun e => ?_)
  · simp only [ge_iff_le] at e; simp [e]
  · simp only [ge_iff_le] at e; simp [e]
theorem l03Is_spec (n lo hi : Int) (h : AHeap) : ACall Try.prog 77 [.int .i64 n, .int .i64 lo, .int .i64 hi] h (.bool (decide (lo ≤ n) && decide (n ≤ hi))) h := by
  refine acall_out (acall_by (fun _ => true) (fun _ => []) (fun _ => .none) mixed Try.func77 rfl rfl rfl (Nat.le_of_ble_eq_true rfl) ⟨trivial, trivial, trivial⟩ ?_)
  refine Eq.mp (by kernel_rfl : (bs (decide (n ≥ lo)) (Value.bool (decide (n ≤ hi)) = Value.bool (decide (lo ≤ n) && decide (n ≤ hi)) ∧ h = h) (Value.bool false = Value.bool (decide (lo ≤ n) && decide (n ≤ hi)) ∧ h = h)) = _) ?_
  refine bs_dec (fun e => ?_) (fun e => ?_)
  · simp only [ge_iff_le] at e; simp [e]
  · simp only [ge_iff_le] at e; simp [e]
end Go.Proofs.Ytanienlcebkijaa
end
section
namespace Go.Proofs.Ytanienlcebkijaa
open Go.Abs Go.Dat
set_option maxRecDepth 100000
set_option maxHeartbeats 4000000
end Go.Proofs.Ytanienlcebkijaa
end
section
namespace Go.Dat
open Go.Abs
open Classical in
noncomputable def tr (p : Prop) : Bool := decide p
theorem tr_true {p : Prop} (h : p) : true = tr p := by unfold tr; simp [h]
theorem tr_false {p : Prop} (h : ¬ p) : false = tr p := by unfold tr; simp [h]
theorem of_tr {p : Prop} (h : tr p = true) : p := by unfold tr at h; simpa using h
theorem of_trn {p : Prop} (h : tr p = false) : ¬ p := by unfold tr at h; simpa using h
end Go.Dat
namespace Go.Proofs.Ytanienlcebkijaa
open Go.Abs Go.Dat
set_option maxRecDepth 100000
set_option maxHeartbeats 4000000
end Go.Proofs.Ytanienlcebkijaa
end
section
namespace Go.Dat
open Go.Abs
def ChOk (t : ByteArray) (i : Nat) : Prop := (97 ≤ byteAt t i ∧ byteAt t i ≤ 122) ∨ (0 < i ∧ (byteAt t i = 95 ∨ (48 ≤ byteAt t i ∧ byteAt t i ≤ 57)))
def NameOk (t : ByteArray) : Prop := 1 ≤ t.size ∧ t.size ≤ 20 ∧ ∀ i, i < t.size → ChOk t i
def MsgOk (t : ByteArray) : Prop := 1 ≤ t.size ∧ t.size ≤ 40
end Go.Dat
namespace Go.Proofs.Ytanienlcebkijaa
open Go.Abs Go.Dat
set_option maxRecDepth 100000
set_option maxHeartbeats 4000000
end Go.Proofs.Ytanienlcebkijaa
end
section
namespace Go.Dat
open Go.Abs
def HeldOk (hs : List Sh.str.T) (i : Nat) : Prop := ∃ t : ByteArray, hs[i]? = some t ∧ MsgOk t
def GrpOk (gs : List groupSh.T) (lo hi : Int) (i : Nat) : Prop := ∃ (n : ByteArray) (k : Int), gs[i]? = some (n, k) ∧ NameOk n ∧ (lo ≤ k ∧ k ≤ hi) ∧ ∀ j, i = j + 1 → ∃ (m : ByteArray) (l : Int), gs[j]? = some (m, l) ∧ Op.bytesLess m.toList n.toList = true
def TopicOk (name : ByteArray) (base : Int) (held : List Sh.str.T) (gs : List groupSh.T) : Prop :=
  NameOk name ∧ (0 ≤ base ∧ base ≤ 1000000000) ∧ held.length ≤ 20 ∧ gs.length ≤ 4 ∧ base + held.length ≤ 1000000000 ∧ (∀ i, i < held.length → HeldOk held i) ∧ ∀ i, i < gs.length → GrpOk gs base (base + held.length) i
theorem GrpOk.mk0 {gs : List groupSh.T} {lo hi k : Int} {n : ByteArray} {i : Nat} (e : gs[i]? = some (n, k)) (h1 : NameOk n) (h2 : lo ≤ k ∧ k ≤ hi) (hi0 : i = 0) : GrpOk gs lo hi i := ⟨n, k, e, h1, h2, fun j hj => by omega⟩
theorem GrpOk.out {gs : List groupSh.T} {lo hi k : Int} {n : ByteArray} {i : Nat} (H : GrpOk gs lo hi i) (e : gs[i]? = some (n, k)) : NameOk n ∧ lo ≤ k ∧ k ≤ hi ∧ ∀ m l, 0 < i → gs[i - 1]? = some (m, l) → Op.bytesLess m.toList n.toList = true := by
  obtain ⟨n', k', e', h1, h2, h3⟩ := H
  rw [e] at e'
  cases e'
  refine ⟨h1, h2.1, h2.2, fun m l hp e2 => ?_⟩
  obtain ⟨m', l', e3, h4⟩ := h3 (i - 1) (by omega)
  rw [e2] at e3
  cases e3
  exact h4
theorem HeldOk.out {hs : List Sh.str.T} {t : ByteArray} {i : Nat} (H : HeldOk hs i) (e : hs[i]? = some t) : MsgOk t := by
  obtain ⟨t', e', h1⟩ := H
  rw [e] at e'
  cases e'
  exact h1
end Go.Dat
namespace Go.Proofs.Ytanienlcebkijaa
open Go.Abs Go.Dat
set_option maxRecDepth 100000
set_option maxHeartbeats 4000000
end Go.Proofs.Ytanienlcebkijaa
end
section
namespace Go.Proofs.Ytanienlcebkijaa
open Go.Abs Go.Dat
set_option maxRecDepth 100000
set_option maxHeartbeats 4000000
end Go.Proofs.Ytanienlcebkijaa
end
section
namespace Go.Proofs.Ytanienlcebkijaa
open Go.Abs Go.Dat
set_option maxRecDepth 100000
set_option maxHeartbeats 4000000
end Go.Proofs.Ytanienlcebkijaa
end
section
namespace Go.Dat
open Go.Abs
def TopAt (ts : List topicSh.T) (i : Nat) : Prop := ∃ (n : ByteArray) (b : Int) (hs : List Sh.str.T) (gs : List groupSh.T), ts[i]? = some (n, b, hs, gs) ∧ TopicOk n b hs gs ∧ ∀ j, i = j + 1 → ∃ (m : ByteArray) (x : Int × List Sh.str.T × List groupSh.T), ts[j]? = some (m, x) ∧ Op.bytesLess m.toList n.toList = true
def RepAt (rs : List replySh.T) (i : Nat) : Prop := ∃ (c n : Int) (t : ByteArray), rs[i]? = some (c, n, t) ∧ (1 ≤ c ∧ c ≤ 9) ∧ (1 ≤ n ∧ n ≤ 1000000000) ∧ t.size ≤ 900 ∧ ∀ j, i = j + 1 → ∃ (d : Int) (x : Int × ByteArray), rs[j]? = some (d, x) ∧ d < c
def BrokerOk (ts : List topicSh.T) (rs : List replySh.T) : Prop := ts.length ≤ 4 ∧ rs.length ≤ 9 ∧ (∀ i, i < ts.length → TopAt ts i) ∧ ∀ i, i < rs.length → RepAt rs i
theorem TopAt.mk0 {ts : List topicSh.T} {n : ByteArray} {b : Int} {hs : List Sh.str.T} {gs : List groupSh.T} {i : Nat} (e : ts[i]? = some (n, b, hs, gs)) (h1 : TopicOk n b hs gs) (hi0 : i = 0) : TopAt ts i := ⟨n, b, hs, gs, e, h1, fun j hj => by omega⟩
theorem TopAt.out {ts : List topicSh.T} {n : ByteArray} {b : Int} {hs : List Sh.str.T} {gs : List groupSh.T} {i : Nat} (H : TopAt ts i) (e : ts[i]? = some (n, b, hs, gs)) : TopicOk n b hs gs ∧ ∀ m x, 0 < i → ts[i - 1]? = some (m, x) → Op.bytesLess m.toList n.toList = true := by
  obtain ⟨n', b', hs', gs', e', h1, h3⟩ := H
  rw [e] at e'
  cases e'
  refine ⟨h1, fun m l hp e2 => ?_⟩
  obtain ⟨m', l', e3, h4⟩ := h3 (i - 1) (by omega)
  rw [e2] at e3
  cases e3
  exact h4
theorem RepAt.mk0 {rs : List replySh.T} {c n : Int} {t : ByteArray} {i : Nat} (e : rs[i]? = some (c, n, t)) (h1 : 1 ≤ c ∧ c ≤ 9) (h2 : 1 ≤ n ∧ n ≤ 1000000000) (h3 : t.size ≤ 900) (hi0 : i = 0) : RepAt rs i := ⟨c, n, t, e, h1, h2, h3, fun j hj => by omega⟩
theorem RepAt.out {rs : List replySh.T} {c n : Int} {t : ByteArray} {i : Nat} (H : RepAt rs i) (e : rs[i]? = some (c, n, t)) : (1 ≤ c ∧ c ≤ 9) ∧ (1 ≤ n ∧ n ≤ 1000000000) ∧ t.size ≤ 900 ∧ ∀ (d : Int) (x : Int × ByteArray), 0 < i → rs[i - 1]? = some (d, x) → d < c := by
  obtain ⟨c', n', t', e', h1, h2, h3, h5⟩ := H
  rw [e] at e'
  cases e'
  refine ⟨h1, h2, h3, fun d x hp e2 => ?_⟩
  obtain ⟨d', x', e3, h4⟩ := h5 (i - 1) (by omega)
  rw [e2] at e3
  cases e3
  exact h4
end Go.Dat
namespace Go.Proofs.Ytanienlcebkijaa
open Go.Abs Go.Dat
set_option maxRecDepth 100000
set_option maxHeartbeats 4000000
end Go.Proofs.Ytanienlcebkijaa
end
section
namespace Go.Dat
open Go.Abs
end Go.Dat
namespace Go.Proofs.Ytanienlcebkijaa
open Go.Abs Go.Dat
set_option maxRecDepth 100000
set_option maxHeartbeats 4000000
end Go.Proofs.Ytanienlcebkijaa
end
section
namespace Go.Dat
open Go.Abs
theorem World.shape_lt {w : World} {b : Nat} {x : TypeId × Nat} (h : w.shape? b = some x) : b < w.heap.size := by
  rcases Nat.lt_or_ge b w.heap.size with hl | hl
  · exact hl
  · unfold World.shape? at h
    rw [Array.getElem?_eq_none hl] at h
    simp at h
theorem cell_pos {P : Program} {W : World} {base : Nat} {u : TypeId} {a : Addr} {n c : Nat} (h : Cell.okWide P W .any base u (.slice (some a) n c)) : 0 < W.heap.size := by
  have h2 : Cell.ok P W .any base u (.slice (some a) n c) := by
    unfold Cell.okWide at h
    split at h <;> first | exact h | (rename_i e; cases e)
  unfold Cell.ok at h2
  split at h2
  all_goals first
    | (rename_i e; cases e; done)
    | skip
  · rename_i e
    cases e
    obtain ⟨_, _, _, _, row, cells, hs, _⟩ := h2
    have := World.shape_lt hs
    omega
  · exact h2.elim
theorem arg_slice {H : Type} {enc : TypeId × Value → H} {P : Program} {W : World} {base m : Nat} {t e : TypeId} {s : Sh} {v : Value} {d : DataW H} {p : List MemPlace} {os : List InObj}
    (hu : P.underlying t = some (.slice e)) (hs : shapes m P t (.sl s) = true) (hv : Value.okWide P W .any base t v) (h0 : DataW.Trod enc P W 0 (fun _ => true) true t v d p) (hg : IGood W os) :
    ∃ (more : List InObj) (y : List s.T) (a : Option Addr) (n c : Nat), IGood W (os ++ more) ∧ Sl (inHeap (os ++ more)) s y (.slice a n c) ∧ VRel (inLay (os ++ more)) (.slice a n c) v ∧ (Sh.sl s).ok y := by
  unfold Value.okWide at hv
  rw [hu] at hv
  dsimp only at hv
  have hc : v.cells.toList = [v] := by
    cases v <;> first | rfl | skip
    unfold Cell.okWide at hv
    rw [hu] at hv
    simp [Cell.ok, hu] at hv
  obtain ⟨fuel, h0⟩ := h0
  rw [hc] at h0
  obtain ⟨more, y, acs, g1, r1, v1, k1⟩ := open_sh m t (.sl s) hs fuel os _ _ hg (fun a n c hm => by
    rw [List.mem_singleton] at hm
    subst hm
    exact cell_pos hv) h0
  obtain ⟨w, rfl, hw⟩ := rd_sl.1 r1
  obtain ⟨a, c, rfl⟩ := hw.isSlice
  exact ⟨more, y, a, _, c, g1, hw, v1.rel 0 _ _ rfl rfl, k1⟩
theorem arel2 {L : Lay} {a A b B : Value} (h : VRel L a A) (h' : VRel L b B) : ARel L #[a, b] #[A, B] := by
  refine ⟨rfl, fun i v V h1 h2 => ?_⟩
  match i, h1, h2 with
  | 0, h1, h2 => simp at h1 h2; subst h1; subst h2; exact h
  | 1, h1, h2 => simp at h1 h2; subst h1; subst h2; exact h'
  | i + 2, h1, h2 => simp at h1
end Go.Dat
end
section
namespace Go.Abs
theorem Rel.below {L : Lay} {F R : Nat → Prop} {w0 w w' : World} {h : AHeap} (r : Rel L F R w0 w h) (b : RowKit.Below w.heap.size w w') : Rel L F R w0 w' h := by
  have hlt : ∀ x, F x → x < w.heap.size := fun x hx => Nat.lt_of_lt_of_le (r.inF x hx) r.keeps.size
  refine ⟨⟨b.os.trans r.keeps.os, b.tape.trans r.keeps.tape, b.output.trans r.keeps.output, Nat.le_trans r.keeps.size b.size, fun x hx => (b.block x (hlt x hx)).trans (r.keeps.block x hx)⟩, r.inF, r.inR, r.fresh, r.unl, fun l o s h1 h2 => ?_, r.free, r.ro, r.apart⟩
  have ob := r.obj l o s h1 h2
  refine ⟨ob.esz, ob.rw, Nat.lt_of_lt_of_le ob.lt b.size, ob.len, fun k row hr j v hv => ?_, fun ho => ?_⟩
  · obtain ⟨V, hV, hvr⟩ := ob.cell k row hr j v hv
    exact ⟨V, by rw [b.cell (p := ⟨s.blk, s.base + k * s.esz + j, none⟩) ob.lt]; exact hV, hvr⟩
  · obtain ⟨cs, T, fr, e, h2, h3⟩ := ob.own ho
    exact ⟨cs, T, fr, by rw [b.block _ ob.lt]; exact e, h2, h3⟩
theorem acall_of_below {P : Program} {f : FuncId} {args : List Value} {h : AHeap} {v : Value}
    (H : ∀ (L : Lay) (F R : Nat → Prop) (w0 w : World) (ARGS : Array Value), Rel L F R w0 w h → ARel L args.toArray ARGS → Calls P f ARGS w fun e W => ∃ V, e = .returned V ∧ VRel L v V ∧ RowKit.Below w.heap.size w W) : ACall P f args h v h := by
  intro L F R w0 w ARGS r a
  refine (H L F R w0 w ARGS r a).mono ?_
  rintro e W ⟨V, he, hv, hb⟩
  exact ⟨V, L, he, .refl _ _, hv, r.below hb⟩
end Go.Abs
end
section
namespace Go.Dat
open Go.Abs
def cat : List ByteArray → ByteArray
  | [] => ⟨#[]⟩
  | x :: xs => x ++ cat xs
theorem ba_ext {a b : ByteArray} (h : a.data.toList = b.data.toList) : a = b := by
  cases a; cases b; congr 1; exact Array.ext' h
theorem ba_append_nil (a : ByteArray) : a ++ (⟨#[]⟩ : ByteArray) = a := ba_ext (by simp)
theorem ba_nil_append (a : ByteArray) : (⟨#[]⟩ : ByteArray) ++ a = a := ba_ext (by simp)
theorem ba_assoc (a b c : ByteArray) : a ++ b ++ c = a ++ (b ++ c) := ba_ext (by simp)
theorem cat_append : ∀ (xs ys : List ByteArray), cat (xs ++ ys) = cat xs ++ cat ys
  | [], ys => (ba_nil_append _).symm
  | x :: xs, ys => by show x ++ cat (xs ++ ys) = x ++ cat xs ++ cat ys; rw [cat_append xs ys, ba_assoc]
theorem cat_list : ∀ (xs : List ByteArray), (cat xs).data.toList = (xs.map (·.data.toList)).flatten
  | [] => rfl
  | x :: xs => by
    show (x ++ cat xs).data.toList = _
    rw [List.map_cons, List.flatten_cons, ← cat_list xs]; simp
theorem inter_nil : ∀ (l : List (List UInt8)), List.intercalate [] l = l.flatten
  | [] => rfl
  | [x] => by simp [List.intercalate]
  | x :: y :: r => by
    have := inter_nil (y :: r)
    simp only [List.intercalate, List.intersperse, List.flatten_cons, List.nil_append] at this ⊢
    rw [this]
structure BInv (h0 h : AHeap) (a : Option Addr) (n c : Nat) (b : ByteArray) : Prop where
  le : h0.Le h
  wf : h.wf
  wf0 : h0.wf
  nb : b.size = n
  at_ : (a = none ∧ n = 0 ∧ c = 0) ∨ ∃ l, a = some ⟨l, 0, some 1⟩ ∧ h0.n ≤ l ∧ h.get l = some ⟨bytesRows b, 1, true⟩ ∧ (c = 0 ∨ c = n + 1)
theorem bytesRows_len (b : ByteArray) : (bytesRows b).length = b.size := by
  unfold bytesRows
  rw [List.length_map]
  exact Array.length_toList
theorem bytesRows_app (a b : ByteArray) : bytesRows (a ++ b) = bytesRows a ++ bytesRows b := by
  unfold bytesRows; simp
theorem BInv.rows {h0 h : AHeap} {a : Option Addr} {n c : Nat} {b : ByteArray} (I : BInv h0 h a n c b) : h.rowsOf (.slice a n c) = some (bytesRows b) := by
  have hl := bytesRows_len b
  have nb := I.nb
  rcases I.at_ with ⟨rfl, rfl, rfl⟩ | ⟨l, rfl, _, hg, _⟩
  · have : bytesRows b = [] := List.eq_nil_of_length_eq_zero (by omega)
    rw [this]; rfl
  · rw [get_rowsOf hg (by omega), List.drop_zero, List.take_of_length_le (by omega)]
theorem BInv.app {h0 h : AHeap} {a : Option Addr} {n c : Nat} {b : ByteArray} (I : BInv h0 h a n c b) (d : ByteArray) :
    ∃ a' c' h', h.app (.slice a n c) (bytesRows d) 1 = some (.slice a' (n + d.size) c', h') ∧ BInv h0 h' a' (n + d.size) c' (b ++ d) := by
  have hd := bytesRows_len d
  have hb := bytesRows_len b
  have nb := I.nb
  have hr := I.rows
  have sz : (b ++ d).size = n + d.size := by rw [ByteArray.size_append]; omega
  unfold AHeap.app
  dsimp only
  cases hx : bytesRows d with
  | nil =>
    rw [hx] at hd
    have h0 : d.size = 0 := hd.symm
    have hd0 : d = ⟨#[]⟩ := ba_ext (by have : d.data.toList.length = 0 := by rw [Array.length_toList]; exact h0
                                       simpa using List.eq_nil_of_length_eq_zero this)
    subst hd0
    exact ⟨a, c, h, rfl, I.le, I.wf, I.wf0, by rw [ba_append_nil]; exact nb, by rw [ba_append_nil]; exact I.at_⟩
  | cons x xs =>
    rw [hx] at hd
    rcases I.at_ with ⟨rfl, rfl, rfl⟩ | ⟨l, rfl, hl, hg, hc⟩
    · have e0 : bytesRows b = [] := List.eq_nil_of_length_eq_zero (by omega)
      dsimp only
      refine ⟨_, _, _, by rw [hd, Nat.zero_add], I.le.trans (.push I.wf _), I.wf.push _, I.wf0, sz, .inr ⟨h.n, rfl, I.le.n, ?_, .inl rfl⟩⟩
      rw [AHeap.get_push_eq, bytesRows_app, e0, hx]; rfl
    · dsimp only
      rw [hr]
      dsimp only
      rw [beq_self_eq_true, cond_true]
      cases hcc : (c != 0 && decide (c ≤ n + (x :: xs).length)) with
      | true =>
        rw [cond_true]
        refine ⟨_, _, _, by rw [hd], I.le.trans (.push I.wf _), I.wf.push _, I.wf0, sz, .inr ⟨h.n, rfl, I.le.n, ?_, .inl rfl⟩⟩
        rw [AHeap.get_push_eq, bytesRows_app, hx]
      | false =>
        rw [cond_false, hg]
        dsimp only
        have hno : (c != 0 && decide (0 + n + (x :: xs).length ≤ (bytesRows b).length)) = false := by
          rw [Bool.and_eq_false_iff]; right; rw [decide_eq_false_iff_not, hb]; simp only [List.length_cons]; omega
        rw [cond_true, hno, cond_false]
        have w2 : (h.put l none).wf := I.wf.put (I.wf.lt hg) _
        refine ⟨_, _, _, by rw [hd], (I.le.put (I.wf0 l hl) none).trans (.push w2 _), w2.push _, I.wf0, sz, .inr ⟨h.n, rfl, I.le.n, ?_, .inl rfl⟩⟩
        show ((h.put l none).push _).get (h.put l none).n = _
        rw [AHeap.get_push_eq, bytesRows_app, hx]
end Go.Dat
end
section
namespace Go.Dat
open Go.Abs
def foldN (n : Int) : Nat := if n < 0 then (2 * (-(n + 1)) + 1).toNat else (2 * n).toNat
def oneB (v : Nat) : ByteArray := ⟨#[UInt8.ofNat v]⟩
def vb (u : Nat) : ByteArray := if u < 128 then oneB u else oneB (u % 128 + 128) ++ vb (u / 128)
termination_by u
decreasing_by omega
theorem vb_lo {u : Nat} (h : u < 128) : vb u = oneB u := by rw [vb, if_pos h]
theorem vb_hi {u : Nat} (h : ¬ u < 128) : vb u = oneB (u % 128 + 128) ++ vb (u / 128) := by rw [vb, if_neg h]
theorem oneB_size (v : Nat) : (oneB v).size = 1 := rfl
theorem vb_size : ∀ (k u : Nat), u < 128 ^ (k + 1) → (vb u).size ≤ k + 1
  | 0, u, h => by rw [vb_lo (by simpa using h)]; exact Nat.le_refl _
  | k + 1, u, h => by
    by_cases hu : u < 128
    · rw [vb_lo hu, oneB_size]; omega
    · rw [vb_hi hu, ByteArray.size_append, oneB_size]
      have := vb_size k (u / 128) (by rw [Nat.div_lt_iff_lt_mul (by omega), ← Nat.pow_succ]; exact h)
      omega
theorem foldN_lt {n : Int} (h : -9223372036854775808 ≤ n ∧ n ≤ 9223372036854775807) : foldN n < 18446744073709551616 := by
  unfold foldN; split <;> omega
theorem BInv.push {h0 h : AHeap} {a : Option Addr} {n c : Nat} {b : ByteArray} (I : BInv h0 h a n c b) (o : AObj) : BInv h0 (h.push o) a n c b :=
  ⟨I.le.trans (.push I.wf _), I.wf.push _, I.wf0, I.nb, I.at_.imp id fun ⟨l, e, h1, h2, h3⟩ => ⟨l, e, h1, (AHeap.Le.push I.wf o).get l _ h2, h3⟩⟩
theorem BInv.nil {h : AHeap} (hw : h.wf) : BInv h h none 0 0 ⟨#[]⟩ := ⟨.refl _, hw, hw, rfl, .inl ⟨rfl, rfl, rfl⟩⟩
end Go.Dat
namespace Go.Proofs.Ytanienlcebkijaa
open Go.Abs Go.Dat
set_option maxRecDepth 100000
set_option maxHeartbeats 4000000
end Go.Proofs.Ytanienlcebkijaa
end
section
namespace Go.Dat
open Go.Abs
def vt (t : ByteArray) : ByteArray := vb (foldN t.size) ++ t
end Go.Dat
namespace Go.Proofs.Ytanienlcebkijaa
open Go.Abs Go.Dat
set_option maxRecDepth 100000
set_option maxHeartbeats 4000000
end Go.Proofs.Ytanienlcebkijaa
end
section
namespace Go.Dat
open Go.Abs
def nb (n : Int) : ByteArray := vb (foldN n)
def grpB (g : groupSh.T) : ByteArray := cat [vt g.1, nb g.2]
def topPre (t : topicSh.T) (j : Nat) : List ByteArray := [vt t.1, nb t.2.1, nb t.2.2.1.length] ++ (t.2.2.1.take j).map vt
def topPre2 (t : topicSh.T) (j : Nat) : List ByteArray := topPre t t.2.2.1.length ++ [nb t.2.2.2.length] ++ (t.2.2.2.take j).map grpB
def topB (t : topicSh.T) : ByteArray := cat (topPre2 t t.2.2.2.length)
def repB (r : replySh.T) : ByteArray := cat [nb r.1, nb r.2.1, vt r.2.2]
def brkPre (ts : List topicSh.T) (i : Nat) : List ByteArray := [nb ts.length] ++ (ts.take i).map topB
def brkPre2 (ts : List topicSh.T) (rs : List replySh.T) (j : Nat) : List ByteArray := brkPre ts ts.length ++ [nb rs.length] ++ (rs.take j).map repB
theorem cat_size_app (L M : List ByteArray) : (cat (L ++ M)).size = (cat L).size + (cat M).size := by rw [cat_append, ByteArray.size_append]
theorem cat_size_cons (x : ByteArray) (L : List ByteArray) : (cat (x :: L)).size = x.size + (cat L).size := ByteArray.size_append
theorem cat_size_nil : (cat []).size = 0 := rfl
theorem cat_map_take {α : Type} {f : α → ByteArray} {m : Nat} : ∀ {xs : List α} (_ : ∀ x ∈ xs, (f x).size ≤ m) (j : Nat), (cat ((xs.take j).map f)).size ≤ m * xs.length
  | [], _, j => by rw [List.take_nil]; exact Nat.zero_le _
  | x :: xs, h, 0 => Nat.zero_le _
  | x :: xs, h, j + 1 => by
    have h1 := h x List.mem_cons_self
    have h2 := cat_map_take (xs := xs) (fun y hy => h y (List.mem_cons_of_mem _ hy)) j
    rw [List.take_succ_cons, List.map_cons, cat_size_cons, List.length_cons, Nat.mul_succ]; omega
theorem nb_size {n : Int} (h : -9223372036854775808 ≤ n ∧ n ≤ 9223372036854775807) : (nb n).size ≤ 10 := vb_size 9 _ (by have := foldN_lt h; omega)
theorem vt_size' {t : ByteArray} (h : t.size ≤ 1000000000) : (vt t).size ≤ t.size + 10 := by
  have := nb_size (n := t.size) (by omega)
  unfold vt; rw [ByteArray.size_append]; unfold nb at this; omega
def InR (lo hi x : Int) : Prop := lo ≤ x ∧ x ≤ hi
theorem nb_sz {lo hi n : Int} (h : InR lo hi n) (h1 : -9223372036854775808 ≤ lo) (h2 : hi ≤ 9223372036854775807) : (nb n).size ≤ 10 := nb_size (by unfold InR at h; omega)
structure TopSz (t : topicSh.T) : Prop where
  nm : t.1.size ≤ 20
  bs : InR 0 1000000000 t.2.1
  hl : t.2.2.1.length ≤ 20
  gl : t.2.2.2.length ≤ 4
  hs : ∀ m ∈ t.2.2.1, ByteArray.size m ≤ 40
  gs : ∀ g ∈ t.2.2.2, ByteArray.size g.1 ≤ 20 ∧ InR 0 2000000000 g.2
theorem TopicOk.sz {n : ByteArray} {b : Int} {hs : List Sh.str.T} {gs : List groupSh.T} (H : TopicOk n b hs gs) : TopSz (n, b, hs, gs) := by
  obtain ⟨h1, h2, h3, h4, h5, h6, h7⟩ := H
  refine ⟨h1.2.1, h2, h3, h4, fun m hm => ?_, fun g hg => ?_⟩
  · obtain ⟨i, hi⟩ := List.mem_iff_getElem?.1 hm
    have := (h6 i (List.getElem?_eq_some_iff.1 hi).1).out hi
    exact this.2
  · obtain ⟨i, hi⟩ := List.mem_iff_getElem?.1 hg
    obtain ⟨gn, (gk : Int)⟩ := g
    have := (h7 i (List.getElem?_eq_some_iff.1 hi).1).out (n := gn) (k := gk) hi
    refine ⟨this.1.2.1, ?_⟩
    show (0 : Int) ≤ gk ∧ gk ≤ 2000000000
    have h8 : hs.length ≤ 20 := h3
    omega
theorem TopSz.grp {t : topicSh.T} (H : TopSz t) : ∀ g ∈ t.2.2.2, (grpB g).size ≤ 40 := fun g hg => by
  have h1 := H.gs g hg
  have h2 := vt_size' (t := g.1) (by omega)
  have h3 := nb_sz h1.2 (by omega) (by omega)
  unfold grpB
  simp only [cat_size_cons, cat_size_nil]; omega
theorem TopSz.pre {t : topicSh.T} (H : TopSz t) (j : Nat) : (cat (topPre t j)).size ≤ 1050 := by
  have h1 := vt_size' (t := t.1) (by have := H.nm; omega)
  have h2 := nb_sz H.bs (by omega) (by omega)
  have h3 := nb_size (n := t.2.2.1.length) (by have := H.hl; omega)
  have h4 := cat_map_take (f := vt) (m := 50) (xs := t.2.2.1) (fun x hx => by have h5 := H.hs x hx; have := vt_size' (t := x) (by omega); omega) j
  have h5 := H.hl
  have h6 := H.nm
  have : 50 * t.2.2.1.length ≤ 1000 := by omega
  unfold topPre
  rw [cat_size_app]
  simp only [cat_size_cons, cat_size_nil]
  omega
theorem TopSz.pre2 {t : topicSh.T} (H : TopSz t) (j : Nat) : (cat (topPre2 t j)).size ≤ 1300 := by
  have h1 := H.pre t.2.2.1.length
  have h3 := nb_size (n := t.2.2.2.length) (by have := H.gl; omega)
  have h4 := cat_map_take H.grp j
  have h5 := H.gl
  unfold topPre2
  rw [cat_size_app, cat_size_app]
  simp only [cat_size_cons, cat_size_nil]
  omega
structure BrkSz (ts : List topicSh.T) (rs : List replySh.T) : Prop where
  tl : ts.length ≤ 4
  rl : rs.length ≤ 9
  ts : ∀ t ∈ ts, TopSz t
  rs : ∀ r ∈ rs, InR 1 9 r.1 ∧ InR 1 1000000000 r.2.1 ∧ ByteArray.size r.2.2 ≤ 900
theorem BrokerOk.sz {ts : List topicSh.T} {rs : List replySh.T} (H : BrokerOk ts rs) : BrkSz ts rs := by
  obtain ⟨h1, h2, h3, h4⟩ := H
  refine ⟨h1, h2, fun t ht => ?_, fun r hr => ?_⟩
  · obtain ⟨i, hi⟩ := List.mem_iff_getElem?.1 ht
    exact TopicOk.sz ((h3 i (List.getElem?_eq_some_iff.1 hi).1).out (n := t.1) (b := t.2.1) (hs := t.2.2.1) (gs := t.2.2.2) hi).1
  · obtain ⟨i, hi⟩ := List.mem_iff_getElem?.1 hr
    have := (h4 i (List.getElem?_eq_some_iff.1 hi).1).out (c := r.1) (n := r.2.1) (t := r.2.2) hi
    exact ⟨this.1, this.2.1, this.2.2.1⟩
theorem BrkSz.pre {ts : List topicSh.T} {rs : List replySh.T} (H : BrkSz ts rs) (i : Nat) : (cat (brkPre ts i)).size ≤ 5300 := by
  have h1 := nb_size (n := ts.length) (by have := H.tl; omega)
  have h2 := cat_map_take (f := topB) (m := 1300) (xs := ts) (fun t ht => (H.ts t ht).pre2 _) i
  have h3 := H.tl
  unfold brkPre
  rw [cat_size_app]
  simp only [cat_size_cons, cat_size_nil]
  omega
theorem BrkSz.rep {ts : List topicSh.T} {rs : List replySh.T} (H : BrkSz ts rs) : ∀ r ∈ rs, (repB r).size ≤ 930 := fun r hr => by
  obtain ⟨h1, h2, h3⟩ := H.rs r hr
  have h4 := nb_sz h1 (by omega) (by omega)
  have h5 := nb_sz h2 (by omega) (by omega)
  have h6 := vt_size' (t := r.2.2) (by omega)
  unfold repB
  simp only [cat_size_cons, cat_size_nil]; omega
theorem BrkSz.pre2 {ts : List topicSh.T} {rs : List replySh.T} (H : BrkSz ts rs) (j : Nat) : (cat (brkPre2 ts rs j)).size ≤ 14000 := by
  have h1 := H.pre ts.length
  have h2 := nb_size (n := rs.length) (by have := H.rl; omega)
  have h3 := cat_map_take H.rep j
  have h4 := H.rl
  unfold brkPre2
  rw [cat_size_app, cat_size_app]
  simp only [cat_size_cons, cat_size_nil]
  omega
end Go.Dat
namespace Go.Proofs.Ytanienlcebkijaa
open Go.Abs Go.Dat
set_option maxRecDepth 100000
set_option maxHeartbeats 8000000
end Go.Proofs.Ytanienlcebkijaa
end
section
namespace Go.Dat
open Go.Abs
def bN (t : ByteArray) (k : Nat) : Nat := (t.data.toList.getD k 0).toNat
def gn (t : ByteArray) (a i u : Nat) : Option (Nat × Nat) :=
  if t.size ≤ a + i then none
  else if i = 9 ∧ 1 < bN t (a + i) then none
  else if 127 < bN t (a + i) then gn t a (i + 1) (u + bN t (a + i) % 128 * 128 ^ i)
  else if bN t (a + i) = 0 ∧ 0 < i then none
  else some (u + bN t (a + i) * 128 ^ i, a + i + 1)
termination_by t.size - (a + i)
decreasing_by omega
def unfoldN (u : Nat) : Int := if u % 2 = 1 then -((u / 2 : Nat) : Int) - 1 else ((u / 2 : Nat) : Int)
end Go.Dat
namespace Go.Proofs.Ytanienlcebkijaa
open Go.Abs Go.Dat
set_option maxRecDepth 100000
set_option maxHeartbeats 8000000
end Go.Proofs.Ytanienlcebkijaa
end
