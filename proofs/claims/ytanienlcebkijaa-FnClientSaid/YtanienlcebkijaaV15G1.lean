/- L1, L2, C3, G1. -/
import Derived.Test.YtanienlcebkijaaV15C2
section
namespace Go.Dat
open Go.Abs
def srcO (a : Option Addr) (n c : Nat) (at_ mix size : Int) : AObj := ⟨[[.slice a n c, .int .i64 at_, .int .u64 mix, .int .i64 size]], 4, true⟩
structure Src (h : AHeap) (l : Nat) (bs : List Sh.byte.T) (a : Option Addr) (n c : Nat) : Prop where
  wf : h.wf
  bytes : Sl h Sh.byte bs (.slice a n c)
  ok : (Sh.sl Sh.byte).ok bs
  obj : ∃ at_ mix size : Int, h.get l = some (srcO a n c at_ mix size) ∧ (0 ≤ at_ ∧ at_ ≤ n) ∧ (0 ≤ mix ∧ mix < 18446744073709551616) ∧ (0 ≤ size ∧ size ≤ 12)
theorem src0 {g : AHeap} {l : Nat} {a : Option Addr} {n c : Nat} {at_ mix size : Int} (hg : g.get l = some (srcO a n c at_ mix size)) : g.ld l 0 0 1 = some [.slice a n c] := by unfold AHeap.ld; rw [hg]; rfl
theorem src1 {g : AHeap} {l : Nat} {a : Option Addr} {n c : Nat} {at_ mix size : Int} (hg : g.get l = some (srcO a n c at_ mix size)) : g.ld l 0 1 1 = some [.int .i64 at_] := by unfold AHeap.ld; rw [hg]; rfl
theorem src2 {g : AHeap} {l : Nat} {a : Option Addr} {n c : Nat} {at_ mix size : Int} (hg : g.get l = some (srcO a n c at_ mix size)) : g.ld l 0 2 1 = some [.int .u64 mix] := by unfold AHeap.ld; rw [hg]; rfl
theorem srcw1 {g : AHeap} {l : Nat} {a : Option Addr} {n c : Nat} {at_ mix size : Int} (v : Int) (hg : g.get l = some (srcO a n c at_ mix size)) : g.wr l 0 1 [.int .i64 v] = some (g.put l (some (srcO a n c v mix size))) := by unfold AHeap.wr; rw [hg]; rfl
theorem srcw2 {g : AHeap} {l : Nat} {a : Option Addr} {n c : Nat} {at_ mix size : Int} (v : Int) (hg : g.get l = some (srcO a n c at_ mix size)) : g.wr l 0 2 [.int .u64 v] = some (g.put l (some (srcO a n c at_ v size))) := by unfold AHeap.wr; rw [hg]; rfl
theorem put_put {g : AHeap} {l : Nat} {x y : Option AObj} : (g.put l x).put l y = g.put l y := by
  unfold AHeap.put
  congr 1
  funext z
  dsimp only
  split <;> rfl
theorem u64_wrap_bd (n : Int) : 0 ≤ IntKind.u64.wrap n ∧ IntKind.u64.wrap n < 18446744073709551616 := by
  have e : IntKind.u64.wrap n = if (false && decide (n % 18446744073709551616 ≥ 9223372036854775808)) = true then n % 18446744073709551616 - 18446744073709551616 else n % 18446744073709551616 := rfl
  rw [e]; simp; omega
theorem draw_bd {x most : Int} (hm : 1 < most ∧ most ≤ 9223372036854775807) : 0 ≤ IntKind.i64.wrap (Int.tmod (IntKind.u64.wrap x) (IntKind.u64.wrap most)) ∧ IntKind.i64.wrap (Int.tmod (IntKind.u64.wrap x) (IntKind.u64.wrap most)) < most := by
  have e : IntKind.u64.wrap most = most := by
    have e : IntKind.u64.wrap most = if (false && decide (most % 18446744073709551616 ≥ 9223372036854775808)) = true then most % 18446744073709551616 - 18446744073709551616 else most % 18446744073709551616 := rfl
    rw [e]; simp; omega
  have h1 := (u64_wrap_bd x).1
  have h2 : Int.tmod (IntKind.u64.wrap x) most = IntKind.u64.wrap x % most := Int.tmod_eq_emod_of_nonneg h1
  have h3 := Int.emod_nonneg (IntKind.u64.wrap x) (show most ≠ 0 by omega)
  have h4 := Int.emod_lt_of_pos (IntKind.u64.wrap x) (show 0 < most by omega)
  rw [e, h2, wrap_i64 (by omega)]
  exact ⟨h3, h4⟩
end Go.Dat
namespace Go.Proofs.Ytanienlcebkijaa
open Go.Abs Go.Dat
set_option maxRecDepth 100000
set_option maxHeartbeats 8000000
theorem srcN_spec (h : AHeap) (l : Nat) (bs : List Sh.byte.T) (a : Option Addr) (n c : Nat) (s : Src h l bs a n c) (most : Int) (hm : -9223372036854775808 ≤ most ∧ most ≤ 9223372036854775807) :
    ∃ v h', ACall Try.prog 69 [.pointer (some ⟨l, 0, some 0⟩), .int .i64 most] h v h' ∧ ∃ r : Int, v = .int .i64 r ∧ 0 ≤ r ∧ (most ≤ 1 → r = 0) ∧ (1 < most → r < most) ∧ But l h h' ∧ (∃ at_ mix size : Int, h'.get l = some (srcO a n c at_ mix size) ∧ (0 ≤ at_ ∧ at_ ≤ n) ∧ (0 ≤ mix ∧ mix < 18446744073709551616) ∧ (0 ≤ size ∧ size ≤ 12)) ∧ h'.wf := by
  obtain ⟨at_, mix, size, hg, h1, h2, h3⟩ := s.obj
  refine acall_q fun Q HQ => ?_
  refine acall_vc (fun _ => false) (fun r => match r with | 4 => [(0, 0, []), (1, 0, []), (2, 0, []), (4, 0, []), (5, 0, []), (6, 0, []), (3, 1, []), (7, 1, []), (8, 0, []), (9, 0, [])] | 5 => [(0, 0, []), (1, 0, []), (2, 0, []), (4, 0, []), (5, 0, []), (6, 0, []), (3, 1, []), (7, 1, []), (8, 0, []), (9, 1, []), (10, 0, []), (11, 0, [])] | 7 => [(0, 0, []), (1, 0, []), (2, 0, []), (3, 0, []), (5, 0, []), (6, 0, []), (7, 0, []), (4, 1, []), (8, 1, []), (9, 0, []), (10, 0, []), (11, 0, []), (12, 0, []), (13, 3, [])] | 8 => [(0, 0, []), (1, 0, []), (2, 0, []), (3, 0, []), (5, 0, []), (6, 0, []), (7, 0, []), (4, 1, []), (8, 1, []), (9, 0, []), (10, 0, []), (11, 0, []), (12, 0, []), (13, 3, [])] | 9 => [(0, 0, []), (1, 0, []), (2, 0, []), (3, 0, []), (5, 0, []), (6, 0, []), (7, 0, []), (4, 1, []), (8, 1, []), (9, 0, []), (10, 0, []), (11, 0, []), (12, 0, []), (13, 3, [])] | _ => []) (fun _ => .none) mixed Try.func69 rfl rfl rfl (Nat.le_of_ble_eq_true rfl) (by refine vc_mp (by kernel_rfl : (True ∧ (True ∧ (True ∧ True) ∧ True) ∧ True ∧ (True ∧ (True ∧ True) ∧ True) ∧ True ∧ True ∧ True ∧ True ∧ True) = _) ?_; simp only [and_self]) ?_
  have hne : 1 < most → IntKind.u64.wrap most ≠ 0 := fun hlt => by
    have e : IntKind.u64.wrap most = if (false && decide (most % 18446744073709551616 ≥ 9223372036854775808)) = true then most % 18446744073709551616 - 18446744073709551616 else most % 18446744073709551616 := rfl
    rw [e]; simp; omega
  have hll := s.wf.lt hg
  have fin : ∀ (x at2 mix2 : Int), 1 < most → (0 ≤ at2 ∧ at2 ≤ n) → (0 ≤ mix2 ∧ mix2 < 18446744073709551616) → Q (.int .i64 (IntKind.i64.wrap (Int.tmod (IntKind.u64.wrap x) (IntKind.u64.wrap most)))) (h.put l (some (srcO a n c at2 mix2 size))) := fun x at2 mix2 hlt ha hm2 => by
    have hd := draw_bd (x := x) (most := most) ⟨hlt, hm.2⟩
    exact HQ _ _ ⟨_, rfl, hd.1, fun h => by omega, fun _ => hd.2, ⟨Nat.le_refl _, fun z o hz ho => by show (h.put l _).get z = some o; rw [AHeap.get_put_ne hz]; exact ho⟩, ⟨at2, mix2, size, AHeap.get_put_eq, ha, hm2, h3⟩, s.wf.put hll _⟩
  refine vc_mp (by kernel_rfl : (Abs.bs (decide (most ≤ (1 : Int))) (Q (Value.int IntKind.i64 (0 : Int)) h) (∃ (x : Int), AHeap.ld h l (0 : Nat) (1 : Nat) (1 : Nat) = some [Value.int IntKind.i64 x] ∧ ∃ (a : Option Addr), ∃ (n : Nat), ∃ (c : Nat), AHeap.ld h l (0 : Nat) (0 : Nat) (1 : Nat) = some [Value.slice a n c] ∧ Abs.bs (decide (x < (↑n : Int))) (∃ (a : Option Addr), ∃ (n : Nat), ∃ (c : Nat), AHeap.ld h l (0 : Nat) (0 : Nat) (1 : Nat) = some [Value.slice a n c] ∧ ∃ (x : Int), AHeap.ld h l (0 : Nat) (1 : Nat) (1 : Nat) = some [Value.int IntKind.i64 x] ∧ ∃ (l_1 : Nat), ∃ (r : Nat), a = some (Addr.mk l_1 r (some (1 : Nat))) ∧ (0 : Int) ≤ x ∧ x < (↑n : Int) ∧ ∃ (x_1 : Int), AHeap.ld h l_1 (r + Int.toNat x) (0 : Nat) (1 : Nat) = some [Value.int IntKind.u8 x_1] ∧ ∃ (x : Int), AHeap.ld h l (0 : Nat) (1 : Nat) (1 : Nat) = some [Value.int IntKind.i64 x] ∧ ∃ (h' : AHeap), AHeap.wr h l (0 : Nat) (1 : Nat) [Value.int IntKind.i64 (IntKind.wrap IntKind.i64 (x + (1 : Int)))] = some h' ∧ ∃ (x : Int), AHeap.ld h' l (0 : Nat) (2 : Nat) (1 : Nat) = some [Value.int IntKind.u64 x] ∧ ∃ (x_2 : Int), AHeap.ld h' l (0 : Nat) (2 : Nat) (1 : Nat) = some [Value.int IntKind.u64 x_2] ∧ (0 : Int) ≤ (13 : Int) ∧ ∃ (h'_1 : AHeap), AHeap.wr h' l (0 : Nat) (2 : Nat) [Value.int IntKind.u64 (IntKind.wrap IntKind.u64 (↑(BitVec.toNat (BitVec.ofInt (IntKind.bits IntKind.u64) x ^^^ BitVec.ofInt (IntKind.bits IntKind.u64) (IntKind.wrap IntKind.u64 (x_2 * (2 : Int) ^ min (Int.toNat (13 : Int)) (IntKind.bits IntKind.u64))))) : Int))] = some h'_1 ∧ ∃ (x : Int), AHeap.ld h'_1 l (0 : Nat) (2 : Nat) (1 : Nat) = some [Value.int IntKind.u64 x] ∧ ∃ (x_3 : Int), AHeap.ld h'_1 l (0 : Nat) (2 : Nat) (1 : Nat) = some [Value.int IntKind.u64 x_3] ∧ (0 : Int) ≤ (7 : Int) ∧ ∃ (h' : AHeap), AHeap.wr h'_1 l (0 : Nat) (2 : Nat) [Value.int IntKind.u64 (IntKind.wrap IntKind.u64 (↑(BitVec.toNat (BitVec.ofInt (IntKind.bits IntKind.u64) x ^^^ BitVec.ofInt (IntKind.bits IntKind.u64) (Int.fdiv x_3 ((2 : Int) ^ min (Int.toNat (7 : Int)) (IntKind.bits IntKind.u64))))) : Int))] = some h' ∧ ∃ (x : Int), AHeap.ld h' l (0 : Nat) (2 : Nat) (1 : Nat) = some [Value.int IntKind.u64 x] ∧ ∃ (x_4 : Int), AHeap.ld h' l (0 : Nat) (2 : Nat) (1 : Nat) = some [Value.int IntKind.u64 x_4] ∧ (0 : Int) ≤ (17 : Int) ∧ ∃ (h'_2 : AHeap), AHeap.wr h' l (0 : Nat) (2 : Nat) [Value.int IntKind.u64 (IntKind.wrap IntKind.u64 (↑(BitVec.toNat (BitVec.ofInt (IntKind.bits IntKind.u64) x ^^^ BitVec.ofInt (IntKind.bits IntKind.u64) (IntKind.wrap IntKind.u64 (x_4 * (2 : Int) ^ min (Int.toNat (17 : Int)) (IntKind.bits IntKind.u64))))) : Int))] = some h'_2 ∧ ∃ (x : Int), AHeap.ld h'_2 l (0 : Nat) (2 : Nat) (1 : Nat) = some [Value.int IntKind.u64 x] ∧ (0 : Int) ≤ (20 : Int) ∧ IntKind.wrap IntKind.u64 most ≠ (0 : Int) ∧ Q (Value.int IntKind.i64 (IntKind.wrap IntKind.i64 (Int.tmod (IntKind.wrap IntKind.u64 (IntKind.wrap IntKind.u64 x_1 + Int.fdiv x ((2 : Int) ^ min (Int.toNat (20 : Int)) (IntKind.bits IntKind.u64)))) (IntKind.wrap IntKind.u64 most)))) h'_2) (∃ (x : Int), AHeap.ld h l (0 : Nat) (2 : Nat) (1 : Nat) = some [Value.int IntKind.u64 x] ∧ ∃ (x_1 : Int), AHeap.ld h l (0 : Nat) (2 : Nat) (1 : Nat) = some [Value.int IntKind.u64 x_1] ∧ (0 : Int) ≤ (13 : Int) ∧ ∃ (h' : AHeap), AHeap.wr h l (0 : Nat) (2 : Nat) [Value.int IntKind.u64 (IntKind.wrap IntKind.u64 (↑(BitVec.toNat (BitVec.ofInt (IntKind.bits IntKind.u64) x ^^^ BitVec.ofInt (IntKind.bits IntKind.u64) (IntKind.wrap IntKind.u64 (x_1 * (2 : Int) ^ min (Int.toNat (13 : Int)) (IntKind.bits IntKind.u64))))) : Int))] = some h' ∧ ∃ (x : Int), AHeap.ld h' l (0 : Nat) (2 : Nat) (1 : Nat) = some [Value.int IntKind.u64 x] ∧ ∃ (x_2 : Int), AHeap.ld h' l (0 : Nat) (2 : Nat) (1 : Nat) = some [Value.int IntKind.u64 x_2] ∧ (0 : Int) ≤ (7 : Int) ∧ ∃ (h'_1 : AHeap), AHeap.wr h' l (0 : Nat) (2 : Nat) [Value.int IntKind.u64 (IntKind.wrap IntKind.u64 (↑(BitVec.toNat (BitVec.ofInt (IntKind.bits IntKind.u64) x ^^^ BitVec.ofInt (IntKind.bits IntKind.u64) (Int.fdiv x_2 ((2 : Int) ^ min (Int.toNat (7 : Int)) (IntKind.bits IntKind.u64))))) : Int))] = some h'_1 ∧ ∃ (x : Int), AHeap.ld h'_1 l (0 : Nat) (2 : Nat) (1 : Nat) = some [Value.int IntKind.u64 x] ∧ ∃ (x_3 : Int), AHeap.ld h'_1 l (0 : Nat) (2 : Nat) (1 : Nat) = some [Value.int IntKind.u64 x_3] ∧ (0 : Int) ≤ (17 : Int) ∧ ∃ (h' : AHeap), AHeap.wr h'_1 l (0 : Nat) (2 : Nat) [Value.int IntKind.u64 (IntKind.wrap IntKind.u64 (↑(BitVec.toNat (BitVec.ofInt (IntKind.bits IntKind.u64) x ^^^ BitVec.ofInt (IntKind.bits IntKind.u64) (IntKind.wrap IntKind.u64 (x_3 * (2 : Int) ^ min (Int.toNat (17 : Int)) (IntKind.bits IntKind.u64))))) : Int))] = some h' ∧ ∃ (x : Int), AHeap.ld h' l (0 : Nat) (2 : Nat) (1 : Nat) = some [Value.int IntKind.u64 x] ∧ (0 : Int) ≤ (20 : Int) ∧ IntKind.wrap IntKind.u64 most ≠ (0 : Int) ∧ Q (Value.int IntKind.i64 (IntKind.wrap IntKind.i64 (Int.tmod (IntKind.wrap IntKind.u64 ((0 : Int) + Int.fdiv x ((2 : Int) ^ min (Int.toNat (20 : Int)) (IntKind.bits IntKind.u64)))) (IntKind.wrap IntKind.u64 most)))) h'))) = _) ?_
  refine bs_d (fun e => HQ _ _ ⟨0, rfl, by omega, fun _ => rfl, fun h => by omega, ⟨Nat.le_refl _, fun _ _ _ e => e⟩, s.obj, s.wf⟩) (fun e => ?_)
  refine ⟨_, src1 hg, _, _, _, src0 hg, bs_d (fun e2 => ?_) (fun e2 => ?_)⟩
  · have en := s.bytes.len
    have hio : at_.toNat < bs.length := by omega
    obtain ⟨b, hat⟩ : ∃ y : Int, bs[at_.toNat]? = some y := ⟨_, List.getElem?_eq_getElem hio⟩
    obtain ⟨l2, r2, row, ha, _, hrd, hld⟩ := s.bytes.elem hat
    obtain rfl : row = [.int .u8 b] := hrd
    have ea : IntKind.i64.wrap (at_ + 1) = at_ + 1 := wrap_i64 (by have := s.ok.1; have : bs.length ≤ 9223372036854775807 := s.ok.1; omega)
    refine ⟨_, _, _, src0 hg, _, src1 hg, l2, r2, ha, h1.1, e2, _, hld, _, src1 hg, _, srcw1 _ hg, ?_⟩
    refine ⟨_, src2 AHeap.get_put_eq, _, src2 AHeap.get_put_eq, by omega, _, srcw2 _ AHeap.get_put_eq, _, src2 AHeap.get_put_eq, _, src2 AHeap.get_put_eq, by omega, _, srcw2 _ AHeap.get_put_eq, _, src2 AHeap.get_put_eq, _, src2 AHeap.get_put_eq, by omega, _, srcw2 _ AHeap.get_put_eq, _, src2 AHeap.get_put_eq, by omega, hne (by omega), ?_⟩
    rw [put_put, put_put, put_put]
    exact fin _ _ _ (by omega) (by rw [ea]; omega) (u64_wrap_bd _)
  · refine ⟨_, src2 hg, _, src2 hg, by omega, _, srcw2 _ hg, _, src2 AHeap.get_put_eq, _, src2 AHeap.get_put_eq, by omega, _, srcw2 _ AHeap.get_put_eq, _, src2 AHeap.get_put_eq, _, src2 AHeap.get_put_eq, by omega, _, srcw2 _ AHeap.get_put_eq, _, src2 AHeap.get_put_eq, by omega, hne (by omega), ?_⟩
    rw [put_put, put_put]
    exact fin _ _ _ (by omega) h1 (u64_wrap_bd _)
end Go.Proofs.Ytanienlcebkijaa
end
section
namespace Go.Dat
open Go.Abs
structure Drawn (h h' : AHeap) (l : Nat) (bs : List Sh.byte.T) (a : Option Addr) (n c : Nat) : Prop where
  but_n : h.n ≤ h'.n
  but : ∀ x o, x ≠ l → h.get x = some o → h'.get x = some o
  src : Src h' l bs a n c
theorem push_put' {h : AHeap} {o o' : AObj} : (h.push o).put h.n (some o') = h.push o' := by
  unfold AHeap.push AHeap.put
  congr 1
  funext x
  dsimp only
  split <;> rfl
theorem srcw3 {g : AHeap} {l : Nat} {a : Option Addr} {n c : Nat} {at_ mix size : Int} (v : Int) (hg : g.get l = some (srcO a n c at_ mix size)) : g.wr l 0 3 [.int .i64 v] = some (g.put l (some (srcO a n c at_ mix v))) := by unfold AHeap.wr; rw [hg]; rfl
theorem src3 {g : AHeap} {l : Nat} {a : Option Addr} {n c : Nat} {at_ mix size : Int} (hg : g.get l = some (srcO a n c at_ mix size)) : g.ld l 0 3 1 = some [.int .i64 size] := by unfold AHeap.ld; rw [hg]; rfl
end Go.Dat
namespace Go.Proofs.Ytanienlcebkijaa
open Go.Abs Go.Dat
set_option maxRecDepth 100000
set_option maxHeartbeats 8000000
theorem But.sl {l : Nat} {h h' : AHeap} (b : But l h h') {s : Sh} {xs : List s.T} {a : Option Addr} {n c : Nat} (hx : Sl h s xs (.slice a n c)) (ih : ∀ (i : Nat) (x : s.T) (row : List Value), s.rd h x row → s.rd h' x row) (hne : ∀ l2 r, a = some ⟨l2, r, some s.cells⟩ → l2 ≠ l) : Sl h' s xs (.slice a n c) := by
  obtain ⟨a', n', c', rows, e, h1, h2, h3, h4⟩ := hx
  cases e
  refine ⟨a, n, c, rows, rfl, h1, ?_, h3, fun i x row hx hr => ih i x row (h4 i x row hx hr)⟩
  rcases h1 with ⟨rfl, rfl, rfl⟩ | ⟨l2, r, rfl⟩
  · exact h2
  · have := hne l2 r rfl
    unfold AHeap.rowsOf at h2 ⊢
    dsimp only at h2 ⊢
    split at h2
    · rename_i o ho
      rw [b.get l2 o this ho]; exact h2
    · cases h2
theorem draw_n (h : AHeap) (l : Nat) (bytes : List Sh.byte.T) (a : Option Addr) (n c : Nat) (s : Src h l bytes a n c) (hne : ∀ l2 r, a = some ⟨l2, r, some 1⟩ → l2 ≠ l) (most : Int) (hm : -9223372036854775808 ≤ most ∧ most ≤ 9223372036854775807) :
    ∃ (r : Int) (h' : AHeap), ACall Try.prog 69 [.pointer (some ⟨l, 0, some 0⟩), .int .i64 most] h (.int .i64 r) h' ∧ 0 ≤ r ∧ (most ≤ 1 → r = 0) ∧ (1 < most → r < most) ∧ Drawn h h' l bytes a n c := by
  obtain ⟨_, h', hA, r, rfl, h1, h2, h3, hb, ho, hw⟩ := srcN_spec h l bytes a n c s most hm
  exact ⟨r, h', hA, h1, h2, h3, hb.n, hb.get, hw, hb.sl s.bytes (fun _ _ _ hr => hr) hne, s.ok, ho⟩
theorem draw_one (h : AHeap) (l : Nat) (bytes : List Sh.byte.T) (a : Option Addr) (n c : Nat) (s : Src h l bytes a n c) (hne : ∀ l2 r, a = some ⟨l2, r, some 1⟩ → l2 ≠ l) (of : Int) (hm : -9223372036854775808 ≤ of ∧ of ≤ 9223372036854775807) :
    ∃ (r : Bool) (h' : AHeap), ACall Try.prog 66 [.pointer (some ⟨l, 0, some 0⟩), .int .i64 of] h (.bool r) h' ∧ Drawn h h' l bytes a n c := by
  obtain ⟨r, h', hA, _, _, _, hd⟩ := draw_n h l bytes a n c s hne of hm
  have : ∃ v g, ACall Try.prog 66 [.pointer (some ⟨l, 0, some 0⟩), .int .i64 of] h v g ∧ v = .bool (decide (r = 0)) ∧ g = h' := by
    refine acall_vc (fun _ => false) (fun _ => []) (fun _ => .none) mixed Try.func66 rfl rfl rfl (Nat.le_of_ble_eq_true rfl) (by refine vc_mp (by kernel_rfl : (True ∧ True ∧ True) = _) ?_; simp only [and_self]) ?_
    refine vc_mp (by kernel_rfl : (∃ (x : Int), ∃ (h'_1 : AHeap), ACall Try.prog (69 : Nat) [Value.pointer (some (Addr.mk l (0 : Nat) (some (0 : Nat)))), Value.int IntKind.i64 of] h (Value.int IntKind.i64 x) h'_1 ∧ Value.bool (decide (x = (0 : Int))) = Value.bool (decide (r = (0 : Int))) ∧ h'_1 = h') = _) ?_
    exact ⟨_, _, hA, rfl, rfl⟩
  obtain ⟨_, _, hB, rfl, rfl⟩ := this
  exact ⟨_, _, hB, hd⟩
theorem draw_pick (h : AHeap) (l : Nat) (bytes : List Sh.byte.T) (a : Option Addr) (n c : Nat) (s : Src h l bytes a n c) (hne : ∀ l2 r, a = some ⟨l2, r, some 1⟩ → l2 ≠ l) (a2 : Option Addr) (n2 c2 : Nat) (xs : List Sh.str.T) (hx : Sl h Sh.str xs (.slice a2 n2 c2)) (hne2 : ∀ l2 r, a2 = some ⟨l2, r, some 1⟩ → l2 ≠ l) (hn2 : 1 < n2 ∧ n2 ≤ 1000000) :
    ∃ (t : ByteArray) (h' : AHeap), ACall Try.prog 68 [.pointer (some ⟨l, 0, some 0⟩), .slice a2 n2 c2] h (.string t) h' ∧ t ∈ xs ∧ Drawn h h' l bytes a n c := by
  obtain ⟨r, h', hA, r0, _, r2, hd⟩ := draw_n h l bytes a n c s hne n2 (by omega)
  have en := hx.len
  have hx' : Sl h' Sh.str xs (.slice a2 n2 c2) := But.sl (l := l) ⟨hd.but_n, hd.but⟩ hx (fun _ _ _ hr => hr) hne2
  obtain ⟨t, hat⟩ : ∃ y : ByteArray, xs[r.toNat]? = some y := ⟨_, List.getElem?_eq_getElem (by have := r2 (by omega); omega)⟩
  obtain ⟨l3, r3, row, ha, _, hrd, hld⟩ := hx'.elem hat
  obtain rfl : row = [.string t] := hrd
  have : ∃ v g, ACall Try.prog 68 [.pointer (some ⟨l, 0, some 0⟩), .slice a2 n2 c2] h v g ∧ v = .string t ∧ g = h' := by
    refine acall_vc (fun _ => false) (fun _ => []) (fun _ => .none) mixed Try.func68 rfl rfl rfl (Nat.le_of_ble_eq_true rfl) (by refine vc_mp (by kernel_rfl : (True ∧ True ∧ True) = _) ?_; simp only [and_self]) ?_
    refine vc_mp (by kernel_rfl : (∃ (x : Int), ∃ (h'_1 : AHeap), ACall Try.prog (69 : Nat) [Value.pointer (some (Addr.mk l (0 : Nat) (some (0 : Nat)))), Value.int IntKind.i64 (↑n2 : Int)] h (Value.int IntKind.i64 x) h'_1 ∧ ∃ (l : Nat), ∃ (r : Nat), a2 = some (Addr.mk l r (some (1 : Nat))) ∧ (0 : Int) ≤ x ∧ x < (↑n2 : Int) ∧ ∃ (x_1 : ByteArray), AHeap.ld h'_1 l (r + Int.toNat x) (0 : Nat) (1 : Nat) = some [Value.string x_1] ∧ Value.string x_1 = Value.string t ∧ h'_1 = h') = _) ?_
    exact ⟨_, _, hA, l3, r3, ha, r0, r2 (by omega), _, hld, rfl, rfl⟩
  obtain ⟨_, _, hB, rfl, rfl⟩ := this
  exact ⟨_, _, hB, List.mem_of_getElem? hat, hd⟩
def l1L (h : AHeap) (a : Option Addr) (n c : Nat) : LSpec where
  ι := Nat × Int
  κ := Int
  I := fun i => i.1 ≤ n ∧ 0 ≤ i.2 ∧ i.2 < 18446744073709551616
  μ := fun i => n - i.1
  head := fun i => ⟨[(0, .slice a n c), (3, .pointer (some ⟨h.n, 0, some 0⟩)), (4, .int .i64 i.1)], [], h.push (srcO a n c 0 i.2 0)⟩
  post := fun j => ⟨[(0, .slice a n c), (3, .pointer (some ⟨h.n, 0, some 0⟩))], [], h.push (srcO a n c 0 j 0)⟩
  R := fun _ j => 0 ≤ j ∧ j < 18446744073709551616
  ret := fun _ _ _ => False
theorem l01Source_spec (h : AHeap) (hw : h.wf) (a : Option Addr) (n c : Nat) (bytes : List Sh.byte.T) (hx : Sl h Sh.byte bytes (.slice a n c)) (ok : (Sh.sl Sh.byte).ok bytes) :
    ∃ v h', ACall Try.prog 65 [.slice a n c] h v h' ∧ h.Le h' ∧ v = .pointer (some ⟨h.n, 0, some 0⟩) ∧ Src h' h.n bytes a n c := by
  have en := hx.len
  have hn : n ≤ 9223372036854775807 := by rw [← en]; exact ok.1
  refine acall_q fun Q HQ => ?_
  refine acall_vc (fun t => t == 7) (fun r => match r with | 5 => [(0, 0, []), (1, 0, []), (2, 0, []), (3, 0, []), (5, 0, []), (6, 0, []), (7, 0, []), (4, 1, []), (8, 1, []), (9, 0, []), (10, 0, []), (11, 0, []), (12, 0, []), (13, 0, []), (14, 3, [])] | _ => []) (fun _ => l1L h a n c) mixed Try.func65 rfl rfl rfl (Nat.le_of_ble_eq_true rfl) ?_ ?_
  · refine vc_mp (by kernel_rfl : (True ∧ True ∧ (True ∧ (∀ (i : Nat × Int), Prod.fst i ≤ n ∧ (0 : Int) ≤ Prod.snd i ∧ Prod.snd i < (18446744073709551616 : Int) → bs (decide ((↑(Prod.fst i) : Int) < (↑n : Int))) (bs (decide ((↑(Prod.fst i) : Int) < (64 : Int))) (∃ (l : Nat), ∃ (r : Nat), a = some (Addr.mk l r (some (1 : Nat))) ∧ (0 : Int) ≤ (↑(Prod.fst i) : Int) ∧ (↑(Prod.fst i) : Int) < (↑n : Int) ∧ ∃ (x : Int), AHeap.ld (AHeap.push h (srcO a n c (0 : Int) (Prod.snd i) (0 : Int))) (AHeap.n h) (0 : Nat) (2 : Nat) (1 : Nat) = some [Value.int IntKind.u64 x] ∧ ∃ (x_1 : Int), AHeap.ld (AHeap.push h (srcO a n c (0 : Int) (Prod.snd i) (0 : Int))) l (r + Int.toNat (↑(Prod.fst i) : Int)) (0 : Nat) (1 : Nat) = some [Value.int IntKind.u8 x_1] ∧ ∃ (h' : AHeap), AHeap.wr (AHeap.push h (srcO a n c (0 : Int) (Prod.snd i) (0 : Int))) (AHeap.n h) (0 : Nat) (2 : Nat) [Value.int IntKind.u64 (IntKind.wrap IntKind.u64 (IntKind.wrap IntKind.u64 (↑(BitVec.toNat (BitVec.ofInt (IntKind.bits IntKind.u64) x ^^^ BitVec.ofInt (IntKind.bits IntKind.u64) (IntKind.wrap IntKind.u64 x_1))) : Int) * (1099511628211 : Int)))] = some h' ∧ ∃ (j : Nat × Int), Value.slice a n c = Value.slice a n c ∧ Value.pointer (some (Addr.mk (AHeap.n h) (0 : Nat) (some (0 : Nat)))) = Value.pointer (some (Addr.mk (AHeap.n h) (0 : Nat) (some (0 : Nat)))) ∧ Value.int IntKind.i64 (IntKind.wrap IntKind.i64 ((↑(Prod.fst i) : Int) + (1 : Int))) = Value.int IntKind.i64 (↑(Prod.fst j) : Int) ∧ AHeap.push h (srcO a n c (0 : Int) (Prod.snd j) (0 : Int)) = h' ∧ (Prod.fst j ≤ n ∧ (0 : Int) ≤ Prod.snd j ∧ Prod.snd j < (18446744073709551616 : Int)) ∧ n - Prod.fst j < n - Prod.fst i ∧ (∀ (k : Int), (0 : Int) ≤ k ∧ k < (18446744073709551616 : Int) → (0 : Int) ≤ k ∧ k < (18446744073709551616 : Int)) ∧ ∀ (v : Value) (h : AHeap), False → False) (∃ (j : Int), Value.slice a n c = Value.slice a n c ∧ Value.pointer (some (Addr.mk (AHeap.n h) (0 : Nat) (some (0 : Nat)))) = Value.pointer (some (Addr.mk (AHeap.n h) (0 : Nat) (some (0 : Nat)))) ∧ AHeap.push h (srcO a n c (0 : Int) j (0 : Int)) = AHeap.push h (srcO a n c (0 : Int) (Prod.snd i) (0 : Int)) ∧ (0 : Int) ≤ j ∧ j < (18446744073709551616 : Int))) (∃ (j : Int), Value.slice a n c = Value.slice a n c ∧ Value.pointer (some (Addr.mk (AHeap.n h) (0 : Nat) (some (0 : Nat)))) = Value.pointer (some (Addr.mk (AHeap.n h) (0 : Nat) (some (0 : Nat)))) ∧ AHeap.push h (srcO a n c (0 : Int) j (0 : Int)) = AHeap.push h (srcO a n c (0 : Int) (Prod.snd i) (0 : Int)) ∧ (0 : Int) ≤ j ∧ j < (18446744073709551616 : Int))) ∧ (True ∧ True ∧ True) ∧ True ∧ True) ∧ True ∧ (True ∧ True ∧ True) ∧ True ∧ True) = _) ?_
    simp only [true_and, and_true]
    rintro ⟨i, mix⟩ ⟨hi, hm⟩
    dsimp only at *
    refine bs_d (fun hlt => ?_) (fun hge => ⟨mix, rfl, hm⟩)
    refine bs_d (fun h64 => ?_) (fun hge => ⟨mix, rfl, hm⟩)
    have hio : i < bytes.length := by omega
    obtain ⟨b, hat⟩ : ∃ y : Int, bytes[i]? = some y := ⟨_, List.getElem?_eq_getElem hio⟩
    obtain ⟨l, r, row, ha, _, hrd, hld⟩ := (hx.mono (.push hw (srcO a n c 0 mix 0))).elem hat
    obtain rfl : row = [.int .u8 b] := hrd
    refine ⟨l, r, ha, Int.natCast_nonneg _, hlt, _, src2 AHeap.get_push_eq, _, hld, _, srcw2 _ AHeap.get_push_eq, (i + 1, _), by rw [wrap_i64 (by omega)]; rfl, push_put'.symm, ⟨by dsimp only; omega, u64_wrap_bd _⟩, by dsimp only; omega, fun _ h => h, fun _ _ h => h⟩
  refine vc_mp (by kernel_rfl : (∃ (i : Nat × Int), Value.slice a n c = Value.slice a n c ∧ Value.pointer (some (Addr.mk (AHeap.n h) (0 : Nat) (some (0 : Nat)))) = Value.pointer (some (Addr.mk (AHeap.n h) (0 : Nat) (some (0 : Nat)))) ∧ Value.int IntKind.i64 (0 : Int) = Value.int IntKind.i64 (↑(Prod.fst i) : Int) ∧ AHeap.push h (srcO a n c (0 : Int) (Prod.snd i) (0 : Int)) = AHeap.push h (AObj.mk [[Value.slice a n c, Value.int IntKind.i64 (Int.ofNat (0 : Nat)), Value.int IntKind.u64 (88172645463325252 : Int), Value.int IntKind.i64 (Int.ofNat (0 : Nat))]] (4 : Nat) true) ∧ (Prod.fst i ≤ n ∧ (0 : Int) ≤ Prod.snd i ∧ Prod.snd i < (18446744073709551616 : Int)) ∧ (∀ (j : Int), (0 : Int) ≤ j ∧ j < (18446744073709551616 : Int) → (20 : Int) ≠ (0 : Int) ∧ ∃ (h' : AHeap), AHeap.wr (AHeap.push h (srcO a n c (0 : Int) j (0 : Int))) (AHeap.n h) (0 : Nat) (3 : Nat) [Value.int IntKind.i64 (IntKind.wrap IntKind.i64 (Int.tdiv (↑n : Int) (20 : Int)))] = some h' ∧ ∃ (x : Int), AHeap.ld h' (AHeap.n h) (0 : Nat) (3 : Nat) (1 : Nat) = some [Value.int IntKind.i64 x] ∧ bs (decide (x > (12 : Int))) (∃ (h'_1 : AHeap), AHeap.wr h' (AHeap.n h) (0 : Nat) (3 : Nat) [Value.int IntKind.i64 (12 : Int)] = some h'_1 ∧ Q (Value.pointer (some (Addr.mk (AHeap.n h) (0 : Nat) (some (0 : Nat))))) h'_1) (Q (Value.pointer (some (Addr.mk (AHeap.n h) (0 : Nat) (some (0 : Nat))))) h')) ∧ ∀ (v : Value) (h : AHeap), False → Q v h) = _) ?_
  have fin : ∀ (mix size : Int), (0 ≤ mix ∧ mix < 18446744073709551616) → (0 ≤ size ∧ size ≤ 12) → Q (.pointer (some ⟨h.n, 0, some 0⟩)) (h.push (srcO a n c 0 mix size)) := fun mix size hm hs =>
    HQ _ _ ⟨.push hw _, rfl, hw.push _, hx.mono (.push hw _), ok, ⟨0, mix, size, AHeap.get_push_eq, by omega, hm, hs⟩⟩
  refine ⟨(0, 88172645463325252), rfl, rfl, rfl, rfl, ⟨Nat.zero_le _, by dsimp only; omega, by dsimp only; omega⟩, fun mix hm => ⟨by omega, _, srcw3 _ AHeap.get_push_eq, ?_⟩, fun _ _ h => h.elim⟩
  rw [push_put']
  have e1 : Int.tdiv (n : Int) 20 = (n : Int) / 20 := Int.tdiv_eq_ediv_of_nonneg (by omega)
  refine ⟨_, src3 AHeap.get_push_eq, ?_⟩
  rw [e1, wrap_i64 (by omega)]
  refine bs_d (fun e => ⟨_, srcw3 _ AHeap.get_push_eq, ?_⟩) (fun e => fin _ _ hm (by omega))
  rw [push_put']
  exact fin _ _ hm (by omega)
end Go.Proofs.Ytanienlcebkijaa
end
section
namespace Go.Proofs.Ytanienlcebkijaa
open Go.Abs Go.Dat
set_option maxRecDepth 100000
theorem within_spec (n lo hi : Int) (h : AHeap) : ACall Try.prog 76 [.int .i64 n, .int .i64 lo, .int .i64 hi] h (.bool (decide (lo ≤ n) && decide (n ≤ hi))) h := by
  refine acall_out (acall_by (fun _ => true) (fun _ => []) (fun _ => .none) mixed Try.func76 rfl rfl rfl (Nat.le_of_ble_eq_true rfl) ⟨trivial, trivial, trivial⟩ ?_)
  refine Eq.mp (by kernel_rfl : (bs (decide (n ≥ lo)) (Value.bool (decide (n ≤ hi)) = Value.bool (decide (lo ≤ n) && decide (n ≤ hi)) ∧ h = h) (Value.bool false = Value.bool (decide (lo ≤ n) && decide (n ≤ hi)) ∧ h = h)) = _) ?_
  refine bs_dec (fun e => ?_) (fun e => ?_)
  · simp only [ge_iff_le] at e; simp [e]
  · simp only [ge_iff_le] at e; simp [e]
theorem l03Is_spec (n lo hi : Int) (h : AHeap) : ACall Try.prog 77 [.int .i64 n, .int .i64 lo, .int .i64 hi] h (.bool (decide (lo ≤ n) && decide (n ≤ hi))) h := by
  refine acall_out (acall_by (fun _ => true) (fun _ => []) (fun _ => .none) mixed Try.func77 rfl rfl rfl (Nat.le_of_ble_eq_true rfl) ⟨trivial, trivial, trivial⟩ ?_)
  refine Eq.mp (by kernel_rfl : (bs (decide (n ≥ lo)) (Value.bool (decide (n ≤ hi)) = Value.bool (decide (lo ≤ n) && decide (n ≤ hi)) ∧ h = h) (Value.bool false = Value.bool (decide (lo ≤ n) && decide (n ≤ hi)) ∧ h = h)) = _) ?_
  refine bs_dec (fun e => ?_) (fun e => ?_)
  · simp only [ge_iff_le] at e; simp [e]
  · simp only [ge_iff_le] at e; simp [e]
theorem isReplica_spec (n : Int) (h : AHeap) : ACall Try.prog 70 [.int .i64 n] h (.bool (decide (0 ≤ n) && decide (n ≤ 3))) h := by
  refine acall_out (acall_by (fun _ => true) (fun _ => []) (fun _ => .none) mixed Try.func70 rfl rfl rfl (Nat.le_of_ble_eq_true rfl) ⟨trivial, trivial, trivial⟩ ?_)
  refine Eq.mp (by kernel_rfl : (∃ (x : Bool), ∃ (h' : AHeap), ACall Try.prog (76 : Nat) [Value.int IntKind.i64 n, Value.int IntKind.i64 (0 : Int), Value.int IntKind.i64 (3 : Int)] h (Value.bool x) h' ∧ Value.bool x = Value.bool (decide ((0 : Int) ≤ n) && decide (n ≤ (3 : Int))) ∧ h' = h) = _) ?_
  exact ⟨_, _, within_spec n 0 3 h, rfl, rfl⟩
theorem l09Who_spec (n : Int) (h : AHeap) : ACall Try.prog 73 [.int .i64 n] h (.bool (decide (0 ≤ n) && decide (n ≤ 3))) h := by
  refine acall_out (acall_by (fun _ => true) (fun _ => []) (fun _ => .none) mixed Try.func73 rfl rfl rfl (Nat.le_of_ble_eq_true rfl) ⟨trivial, trivial, trivial⟩ ?_)
  refine Eq.mp (by kernel_rfl : (∃ (x : Bool), ∃ (h' : AHeap), ACall Try.prog (77 : Nat) [Value.int IntKind.i64 n, Value.int IntKind.i64 (0 : Int), Value.int IntKind.i64 (3 : Int)] h (Value.bool x) h' ∧ Value.bool x = Value.bool (decide ((0 : Int) ≤ n) && decide (n ≤ (3 : Int))) ∧ h' = h) = _) ?_
  trace_state
  exact ⟨_, _, l03Is_spec n 0 3 h, rfl, rfl⟩
end Go.Proofs.Ytanienlcebkijaa
end
section
namespace Go.Proofs.Ytanienlcebkijaa
open Go.Abs Go.Dat
set_option maxRecDepth 100000
set_option maxHeartbeats 4000000
end Go.Proofs.Ytanienlcebkijaa
end
