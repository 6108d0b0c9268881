/- L1, L2, Y0, A32, V0, V3, U1, U2, W0, W1, W3, W4, U3, U4, U5, W6, Y2, J0, J3, J2, Y5. -/
import Derived.Test.YtanienlcebkijaaV16F4
import Derived.Test.YtanienlcebkijaaV16Z2
import Derived.Test.YtanienlcebkijaaV16T2
import Derived.Shelf.Strings.OnBuilder
import Derived.Test.YtanienlcebkijaaProg
import Derived.Test.YtanienlcebkijaaV16S1
section
namespace Go.Dat
open Go.Abs
def srcO (a : Option Addr) (n c : Nat) (at_ mix size : Int) : AObj := ⟨[[.slice a n c, .int .i64 at_, .int .u64 mix, .int .i64 size]], 4, true⟩
structure Src (h : AHeap) (l : Nat) (bs : List Sh.byte.T) (a : Option Addr) (n c : Nat) : Prop where
  wf : h.wf
  bytes : Sl h Sh.byte bs (.slice a n c)
  ok : (Sh.sl Sh.byte).ok bs
  obj : ∃ at_ mix size : Int, h.get l = some (srcO a n c at_ mix size) ∧ (0 ≤ at_ ∧ at_ ≤ n) ∧ (0 ≤ mix ∧ mix < 18446744073709551616) ∧ (0 ≤ size ∧ size ≤ 12)
theorem src0 {g : AHeap} {l : Nat} {a : Option Addr} {n c : Nat} {at_ mix size : Int} (hg : g.get l = some (srcO a n c at_ mix size)) : g.ld l 0 0 1 = some [.slice a n c] := by unfold AHeap.ld; rw [hg]; rfl
theorem src1 {g : AHeap} {l : Nat} {a : Option Addr} {n c : Nat} {at_ mix size : Int} (hg : g.get l = some (srcO a n c at_ mix size)) : g.ld l 0 1 1 = some [.int .i64 at_] := by unfold AHeap.ld; rw [hg]; rfl
theorem src2 {g : AHeap} {l : Nat} {a : Option Addr} {n c : Nat} {at_ mix size : Int} (hg : g.get l = some (srcO a n c at_ mix size)) : g.ld l 0 2 1 = some [.int .u64 mix] := by unfold AHeap.ld; rw [hg]; rfl
theorem srcw1 {g : AHeap} {l : Nat} {a : Option Addr} {n c : Nat} {at_ mix size : Int} (v : Int) (hg : g.get l = some (srcO a n c at_ mix size)) : g.wr l 0 1 [.int .i64 v] = some (g.put l (some (srcO a n c v mix size))) := by unfold AHeap.wr; rw [hg]; rfl
theorem srcw2 {g : AHeap} {l : Nat} {a : Option Addr} {n c : Nat} {at_ mix size : Int} (v : Int) (hg : g.get l = some (srcO a n c at_ mix size)) : g.wr l 0 2 [.int .u64 v] = some (g.put l (some (srcO a n c at_ v size))) := by unfold AHeap.wr; rw [hg]; rfl
theorem put_put {g : AHeap} {l : Nat} {x y : Option AObj} : (g.put l x).put l y = g.put l y := by
  unfold AHeap.put
  congr 1
  funext z
  dsimp only
  split <;> rfl
theorem u64_wrap_bd (n : Int) : 0 ≤ IntKind.u64.wrap n ∧ IntKind.u64.wrap n < 18446744073709551616 := by
  have e : IntKind.u64.wrap n = if (false && decide (n % 18446744073709551616 ≥ 9223372036854775808)) = true then n % 18446744073709551616 - 18446744073709551616 else n % 18446744073709551616 := rfl
  rw [e]; simp; omega
theorem draw_bd {x most : Int} (hm : 1 < most ∧ most ≤ 9223372036854775807) : 0 ≤ IntKind.i64.wrap (Int.tmod (IntKind.u64.wrap x) (IntKind.u64.wrap most)) ∧ IntKind.i64.wrap (Int.tmod (IntKind.u64.wrap x) (IntKind.u64.wrap most)) < most := by
  have e : IntKind.u64.wrap most = most := by
    have e : IntKind.u64.wrap most = if (false && decide (most % 18446744073709551616 ≥ 9223372036854775808)) = true then most % 18446744073709551616 - 18446744073709551616 else most % 18446744073709551616 := rfl
    rw [e]; simp; omega
  have h1 := (u64_wrap_bd x).1
  have h2 : Int.tmod (IntKind.u64.wrap x) most = IntKind.u64.wrap x % most := Int.tmod_eq_emod_of_nonneg h1
  have h3 := Int.emod_nonneg (IntKind.u64.wrap x) (show most ≠ 0 by omega)
  have h4 := Int.emod_lt_of_pos (IntKind.u64.wrap x) (show 0 < most by omega)
  rw [e, h2, wrap_i64 (by omega)]
  exact ⟨h3, h4⟩
end Go.Dat
namespace Go.Proofs.Ytanienlcebkijaa
open Go.Abs Go.Dat
set_option maxRecDepth 100000
set_option maxHeartbeats 8000000
theorem srcN_spec (h : AHeap) (l : Nat) (bs : List Sh.byte.T) (a : Option Addr) (n c : Nat) (s : Src h l bs a n c) (most : Int) (hm : -9223372036854775808 ≤ most ∧ most ≤ 9223372036854775807) :
    ∃ v h', ACall Try.prog 69 [.pointer (some ⟨l, 0, some 0⟩), .int .i64 most] h v h' ∧ ∃ r : Int, v = .int .i64 r ∧ 0 ≤ r ∧ (most ≤ 1 → r = 0) ∧ (1 < most → r < most) ∧ But l h h' ∧ (∃ at_ mix size : Int, h'.get l = some (srcO a n c at_ mix size) ∧ (0 ≤ at_ ∧ at_ ≤ n) ∧ (0 ≤ mix ∧ mix < 18446744073709551616) ∧ (0 ≤ size ∧ size ≤ 12)) ∧ h'.wf := by
  obtain ⟨at_, mix, size, hg, h1, h2, h3⟩ := s.obj
  refine acall_q fun Q HQ => ?_
  refine acall_vc (fun _ => false) (fun r => match r with | 4 => [(0, 0, []), (1, 0, []), (2, 0, []), (4, 0, []), (5, 0, []), (6, 0, []), (3, 1, []), (7, 1, []), (8, 0, []), (9, 0, [])] | 5 => [(0, 0, []), (1, 0, []), (2, 0, []), (4, 0, []), (5, 0, []), (6, 0, []), (3, 1, []), (7, 1, []), (8, 0, []), (9, 1, []), (10, 0, []), (11, 0, [])] | 7 => [(0, 0, []), (1, 0, []), (2, 0, []), (3, 0, []), (5, 0, []), (6, 0, []), (7, 0, []), (4, 1, []), (8, 1, []), (9, 0, []), (10, 0, []), (11, 0, []), (12, 0, []), (13, 3, [])] | 8 => [(0, 0, []), (1, 0, []), (2, 0, []), (3, 0, []), (5, 0, []), (6, 0, []), (7, 0, []), (4, 1, []), (8, 1, []), (9, 0, []), (10, 0, []), (11, 0, []), (12, 0, []), (13, 3, [])] | 9 => [(0, 0, []), (1, 0, []), (2, 0, []), (3, 0, []), (5, 0, []), (6, 0, []), (7, 0, []), (4, 1, []), (8, 1, []), (9, 0, []), (10, 0, []), (11, 0, []), (12, 0, []), (13, 3, [])] | _ => []) (fun _ => .none) mixed Try.func69 rfl rfl rfl (Nat.le_of_ble_eq_true rfl) (by refine vc_mp (by kernel_rfl : (True ∧ (True ∧ (True ∧ True) ∧ True) ∧ True ∧ (True ∧ (True ∧ True) ∧ True) ∧ True ∧ True ∧ True ∧ True ∧ True) = _) ?_; simp only [and_self]) ?_
  have hne : 1 < most → IntKind.u64.wrap most ≠ 0 := fun hlt => by
    have e : IntKind.u64.wrap most = if (false && decide (most % 18446744073709551616 ≥ 9223372036854775808)) = true then most % 18446744073709551616 - 18446744073709551616 else most % 18446744073709551616 := rfl
    rw [e]; simp; omega
  have hll := s.wf.lt hg
  have fin : ∀ (x at2 mix2 : Int), 1 < most → (0 ≤ at2 ∧ at2 ≤ n) → (0 ≤ mix2 ∧ mix2 < 18446744073709551616) → Q (.int .i64 (IntKind.i64.wrap (Int.tmod (IntKind.u64.wrap x) (IntKind.u64.wrap most)))) (h.put l (some (srcO a n c at2 mix2 size))) := fun x at2 mix2 hlt ha hm2 => by
    have hd := draw_bd (x := x) (most := most) ⟨hlt, hm.2⟩
    exact HQ _ _ ⟨_, rfl, hd.1, fun h => by omega, fun _ => hd.2, ⟨Nat.le_refl _, fun z o hz ho => by show (h.put l _).get z = some o; rw [AHeap.get_put_ne hz]; exact ho⟩, ⟨at2, mix2, size, AHeap.get_put_eq, ha, hm2, h3⟩, s.wf.put hll _⟩
  refine vc_mp (by kernel_rfl : (Abs.bs (decide (most ≤ (1 : Int))) (Q (Value.int IntKind.i64 (0 : Int)) h) (∃ (x : Int), AHeap.ld h l (0 : Nat) (1 : Nat) (1 : Nat) = some [Value.int IntKind.i64 x] ∧ ∃ (a : Option Addr), ∃ (n : Nat), ∃ (c : Nat), AHeap.ld h l (0 : Nat) (0 : Nat) (1 : Nat) = some [Value.slice a n c] ∧ Abs.bs (decide (x < (↑n : Int))) (∃ (a : Option Addr), ∃ (n : Nat), ∃ (c : Nat), AHeap.ld h l (0 : Nat) (0 : Nat) (1 : Nat) = some [Value.slice a n c] ∧ ∃ (x : Int), AHeap.ld h l (0 : Nat) (1 : Nat) (1 : Nat) = some [Value.int IntKind.i64 x] ∧ ∃ (l_1 : Nat), ∃ (r : Nat), a = some (Addr.mk l_1 r (some (1 : Nat))) ∧ (0 : Int) ≤ x ∧ x < (↑n : Int) ∧ ∃ (x_1 : Int), AHeap.ld h l_1 (r + Int.toNat x) (0 : Nat) (1 : Nat) = some [Value.int IntKind.u8 x_1] ∧ ∃ (x : Int), AHeap.ld h l (0 : Nat) (1 : Nat) (1 : Nat) = some [Value.int IntKind.i64 x] ∧ ∃ (h' : AHeap), AHeap.wr h l (0 : Nat) (1 : Nat) [Value.int IntKind.i64 (IntKind.wrap IntKind.i64 (x + (1 : Int)))] = some h' ∧ ∃ (x : Int), AHeap.ld h' l (0 : Nat) (2 : Nat) (1 : Nat) = some [Value.int IntKind.u64 x] ∧ ∃ (x_2 : Int), AHeap.ld h' l (0 : Nat) (2 : Nat) (1 : Nat) = some [Value.int IntKind.u64 x_2] ∧ (0 : Int) ≤ (13 : Int) ∧ ∃ (h'_1 : AHeap), AHeap.wr h' l (0 : Nat) (2 : Nat) [Value.int IntKind.u64 (IntKind.wrap IntKind.u64 (↑(BitVec.toNat (BitVec.ofInt (IntKind.bits IntKind.u64) x ^^^ BitVec.ofInt (IntKind.bits IntKind.u64) (IntKind.wrap IntKind.u64 (x_2 * (2 : Int) ^ min (Int.toNat (13 : Int)) (IntKind.bits IntKind.u64))))) : Int))] = some h'_1 ∧ ∃ (x : Int), AHeap.ld h'_1 l (0 : Nat) (2 : Nat) (1 : Nat) = some [Value.int IntKind.u64 x] ∧ ∃ (x_3 : Int), AHeap.ld h'_1 l (0 : Nat) (2 : Nat) (1 : Nat) = some [Value.int IntKind.u64 x_3] ∧ (0 : Int) ≤ (7 : Int) ∧ ∃ (h' : AHeap), AHeap.wr h'_1 l (0 : Nat) (2 : Nat) [Value.int IntKind.u64 (IntKind.wrap IntKind.u64 (↑(BitVec.toNat (BitVec.ofInt (IntKind.bits IntKind.u64) x ^^^ BitVec.ofInt (IntKind.bits IntKind.u64) (Int.fdiv x_3 ((2 : Int) ^ min (Int.toNat (7 : Int)) (IntKind.bits IntKind.u64))))) : Int))] = some h' ∧ ∃ (x : Int), AHeap.ld h' l (0 : Nat) (2 : Nat) (1 : Nat) = some [Value.int IntKind.u64 x] ∧ ∃ (x_4 : Int), AHeap.ld h' l (0 : Nat) (2 : Nat) (1 : Nat) = some [Value.int IntKind.u64 x_4] ∧ (0 : Int) ≤ (17 : Int) ∧ ∃ (h'_2 : AHeap), AHeap.wr h' l (0 : Nat) (2 : Nat) [Value.int IntKind.u64 (IntKind.wrap IntKind.u64 (↑(BitVec.toNat (BitVec.ofInt (IntKind.bits IntKind.u64) x ^^^ BitVec.ofInt (IntKind.bits IntKind.u64) (IntKind.wrap IntKind.u64 (x_4 * (2 : Int) ^ min (Int.toNat (17 : Int)) (IntKind.bits IntKind.u64))))) : Int))] = some h'_2 ∧ ∃ (x : Int), AHeap.ld h'_2 l (0 : Nat) (2 : Nat) (1 : Nat) = some [Value.int IntKind.u64 x] ∧ (0 : Int) ≤ (20 : Int) ∧ IntKind.wrap IntKind.u64 most ≠ (0 : Int) ∧ Q (Value.int IntKind.i64 (IntKind.wrap IntKind.i64 (Int.tmod (IntKind.wrap IntKind.u64 (IntKind.wrap IntKind.u64 x_1 + Int.fdiv x ((2 : Int) ^ min (Int.toNat (20 : Int)) (IntKind.bits IntKind.u64)))) (IntKind.wrap IntKind.u64 most)))) h'_2) (∃ (x : Int), AHeap.ld h l (0 : Nat) (2 : Nat) (1 : Nat) = some [Value.int IntKind.u64 x] ∧ ∃ (x_1 : Int), AHeap.ld h l (0 : Nat) (2 : Nat) (1 : Nat) = some [Value.int IntKind.u64 x_1] ∧ (0 : Int) ≤ (13 : Int) ∧ ∃ (h' : AHeap), AHeap.wr h l (0 : Nat) (2 : Nat) [Value.int IntKind.u64 (IntKind.wrap IntKind.u64 (↑(BitVec.toNat (BitVec.ofInt (IntKind.bits IntKind.u64) x ^^^ BitVec.ofInt (IntKind.bits IntKind.u64) (IntKind.wrap IntKind.u64 (x_1 * (2 : Int) ^ min (Int.toNat (13 : Int)) (IntKind.bits IntKind.u64))))) : Int))] = some h' ∧ ∃ (x : Int), AHeap.ld h' l (0 : Nat) (2 : Nat) (1 : Nat) = some [Value.int IntKind.u64 x] ∧ ∃ (x_2 : Int), AHeap.ld h' l (0 : Nat) (2 : Nat) (1 : Nat) = some [Value.int IntKind.u64 x_2] ∧ (0 : Int) ≤ (7 : Int) ∧ ∃ (h'_1 : AHeap), AHeap.wr h' l (0 : Nat) (2 : Nat) [Value.int IntKind.u64 (IntKind.wrap IntKind.u64 (↑(BitVec.toNat (BitVec.ofInt (IntKind.bits IntKind.u64) x ^^^ BitVec.ofInt (IntKind.bits IntKind.u64) (Int.fdiv x_2 ((2 : Int) ^ min (Int.toNat (7 : Int)) (IntKind.bits IntKind.u64))))) : Int))] = some h'_1 ∧ ∃ (x : Int), AHeap.ld h'_1 l (0 : Nat) (2 : Nat) (1 : Nat) = some [Value.int IntKind.u64 x] ∧ ∃ (x_3 : Int), AHeap.ld h'_1 l (0 : Nat) (2 : Nat) (1 : Nat) = some [Value.int IntKind.u64 x_3] ∧ (0 : Int) ≤ (17 : Int) ∧ ∃ (h' : AHeap), AHeap.wr h'_1 l (0 : Nat) (2 : Nat) [Value.int IntKind.u64 (IntKind.wrap IntKind.u64 (↑(BitVec.toNat (BitVec.ofInt (IntKind.bits IntKind.u64) x ^^^ BitVec.ofInt (IntKind.bits IntKind.u64) (IntKind.wrap IntKind.u64 (x_3 * (2 : Int) ^ min (Int.toNat (17 : Int)) (IntKind.bits IntKind.u64))))) : Int))] = some h' ∧ ∃ (x : Int), AHeap.ld h' l (0 : Nat) (2 : Nat) (1 : Nat) = some [Value.int IntKind.u64 x] ∧ (0 : Int) ≤ (20 : Int) ∧ IntKind.wrap IntKind.u64 most ≠ (0 : Int) ∧ Q (Value.int IntKind.i64 (IntKind.wrap IntKind.i64 (Int.tmod (IntKind.wrap IntKind.u64 ((0 : Int) + Int.fdiv x ((2 : Int) ^ min (Int.toNat (20 : Int)) (IntKind.bits IntKind.u64)))) (IntKind.wrap IntKind.u64 most)))) h'))) = _) ?_
  refine bs_d (fun e => HQ _ _ ⟨0, rfl, by omega, fun _ => rfl, fun h => by omega, ⟨Nat.le_refl _, fun _ _ _ e => e⟩, s.obj, s.wf⟩) (fun e => ?_)
  refine ⟨_, src1 hg, _, _, _, src0 hg, bs_d (fun e2 => ?_) (fun e2 => ?_)⟩
  · have en := s.bytes.len
    have hio : at_.toNat < bs.length := by omega
    obtain ⟨b, hat⟩ : ∃ y : Int, bs[at_.toNat]? = some y := ⟨_, List.getElem?_eq_getElem hio⟩
    obtain ⟨l2, r2, row, ha, _, hrd, hld⟩ := s.bytes.elem hat
    obtain rfl : row = [.int .u8 b] := hrd
    have ea : IntKind.i64.wrap (at_ + 1) = at_ + 1 := wrap_i64 (by have := s.ok.1; have : bs.length ≤ 9223372036854775807 := s.ok.1; omega)
    refine ⟨_, _, _, src0 hg, _, src1 hg, l2, r2, ha, h1.1, e2, _, hld, _, src1 hg, _, srcw1 _ hg, ?_⟩
    refine ⟨_, src2 AHeap.get_put_eq, _, src2 AHeap.get_put_eq, by omega, _, srcw2 _ AHeap.get_put_eq, _, src2 AHeap.get_put_eq, _, src2 AHeap.get_put_eq, by omega, _, srcw2 _ AHeap.get_put_eq, _, src2 AHeap.get_put_eq, _, src2 AHeap.get_put_eq, by omega, _, srcw2 _ AHeap.get_put_eq, _, src2 AHeap.get_put_eq, by omega, hne (by omega), ?_⟩
    rw [put_put, put_put, put_put]
    exact fin _ _ _ (by omega) (by rw [ea]; omega) (u64_wrap_bd _)
  · refine ⟨_, src2 hg, _, src2 hg, by omega, _, srcw2 _ hg, _, src2 AHeap.get_put_eq, _, src2 AHeap.get_put_eq, by omega, _, srcw2 _ AHeap.get_put_eq, _, src2 AHeap.get_put_eq, _, src2 AHeap.get_put_eq, by omega, _, srcw2 _ AHeap.get_put_eq, _, src2 AHeap.get_put_eq, by omega, hne (by omega), ?_⟩
    rw [put_put, put_put]
    exact fin _ _ _ (by omega) h1 (u64_wrap_bd _)
end Go.Proofs.Ytanienlcebkijaa
end
section
namespace Go.Dat
open Go.Abs
structure Drawn (h h' : AHeap) (l : Nat) (bs : List Sh.byte.T) (a : Option Addr) (n c : Nat) : Prop where
  but_n : h.n ≤ h'.n
  but : ∀ x o, x ≠ l → h.get x = some o → h'.get x = some o
  src : Src h' l bs a n c
theorem push_put' {h : AHeap} {o o' : AObj} : (h.push o).put h.n (some o') = h.push o' := by
  unfold AHeap.push AHeap.put
  congr 1
  funext x
  dsimp only
  split <;> rfl
theorem srcw3 {g : AHeap} {l : Nat} {a : Option Addr} {n c : Nat} {at_ mix size : Int} (v : Int) (hg : g.get l = some (srcO a n c at_ mix size)) : g.wr l 0 3 [.int .i64 v] = some (g.put l (some (srcO a n c at_ mix v))) := by unfold AHeap.wr; rw [hg]; rfl
theorem src3 {g : AHeap} {l : Nat} {a : Option Addr} {n c : Nat} {at_ mix size : Int} (hg : g.get l = some (srcO a n c at_ mix size)) : g.ld l 0 3 1 = some [.int .i64 size] := by unfold AHeap.ld; rw [hg]; rfl
end Go.Dat
namespace Go.Proofs.Ytanienlcebkijaa
open Go.Abs Go.Dat
set_option maxRecDepth 100000
set_option maxHeartbeats 8000000
theorem But.sl {l : Nat} {h h' : AHeap} (b : But l h h') {s : Sh} {xs : List s.T} {a : Option Addr} {n c : Nat} (hx : Sl h s xs (.slice a n c)) (ih : ∀ (i : Nat) (x : s.T) (row : List Value), s.rd h x row → s.rd h' x row) (hne : ∀ l2 r, a = some ⟨l2, r, some s.cells⟩ → l2 ≠ l) : Sl h' s xs (.slice a n c) := by
  obtain ⟨a', n', c', rows, e, h1, h2, h3, h4⟩ := hx
  cases e
  refine ⟨a, n, c, rows, rfl, h1, ?_, h3, fun i x row hx hr => ih i x row (h4 i x row hx hr)⟩
  rcases h1 with ⟨rfl, rfl, rfl⟩ | ⟨l2, r, rfl⟩
  · exact h2
  · have := hne l2 r rfl
    unfold AHeap.rowsOf at h2 ⊢
    dsimp only at h2 ⊢
    split at h2
    · rename_i o ho
      rw [b.get l2 o this ho]; exact h2
    · cases h2
theorem draw_n (h : AHeap) (l : Nat) (bytes : List Sh.byte.T) (a : Option Addr) (n c : Nat) (s : Src h l bytes a n c) (hne : ∀ l2 r, a = some ⟨l2, r, some 1⟩ → l2 ≠ l) (most : Int) (hm : -9223372036854775808 ≤ most ∧ most ≤ 9223372036854775807) :
    ∃ (r : Int) (h' : AHeap), ACall Try.prog 69 [.pointer (some ⟨l, 0, some 0⟩), .int .i64 most] h (.int .i64 r) h' ∧ 0 ≤ r ∧ (most ≤ 1 → r = 0) ∧ (1 < most → r < most) ∧ Drawn h h' l bytes a n c := by
  obtain ⟨_, h', hA, r, rfl, h1, h2, h3, hb, ho, hw⟩ := srcN_spec h l bytes a n c s most hm
  exact ⟨r, h', hA, h1, h2, h3, hb.n, hb.get, hw, hb.sl s.bytes (fun _ _ _ hr => hr) hne, s.ok, ho⟩
theorem draw_one (h : AHeap) (l : Nat) (bytes : List Sh.byte.T) (a : Option Addr) (n c : Nat) (s : Src h l bytes a n c) (hne : ∀ l2 r, a = some ⟨l2, r, some 1⟩ → l2 ≠ l) (of : Int) (hm : -9223372036854775808 ≤ of ∧ of ≤ 9223372036854775807) :
    ∃ (r : Bool) (h' : AHeap), ACall Try.prog 66 [.pointer (some ⟨l, 0, some 0⟩), .int .i64 of] h (.bool r) h' ∧ Drawn h h' l bytes a n c := by
  obtain ⟨r, h', hA, _, _, _, hd⟩ := draw_n h l bytes a n c s hne of hm
  have : ∃ v g, ACall Try.prog 66 [.pointer (some ⟨l, 0, some 0⟩), .int .i64 of] h v g ∧ v = .bool (decide (r = 0)) ∧ g = h' := by
    refine acall_vc (fun _ => false) (fun _ => []) (fun _ => .none) mixed Try.func66 rfl rfl rfl (Nat.le_of_ble_eq_true rfl) (by refine vc_mp (by kernel_rfl : (True ∧ True ∧ True) = _) ?_; simp only [and_self]) ?_
    refine vc_mp (by kernel_rfl : (∃ (x : Int), ∃ (h'_1 : AHeap), ACall Try.prog (69 : Nat) [Value.pointer (some (Addr.mk l (0 : Nat) (some (0 : Nat)))), Value.int IntKind.i64 of] h (Value.int IntKind.i64 x) h'_1 ∧ Value.bool (decide (x = (0 : Int))) = Value.bool (decide (r = (0 : Int))) ∧ h'_1 = h') = _) ?_
    exact ⟨_, _, hA, rfl, rfl⟩
  obtain ⟨_, _, hB, rfl, rfl⟩ := this
  exact ⟨_, _, hB, hd⟩
theorem draw_pick (h : AHeap) (l : Nat) (bytes : List Sh.byte.T) (a : Option Addr) (n c : Nat) (s : Src h l bytes a n c) (hne : ∀ l2 r, a = some ⟨l2, r, some 1⟩ → l2 ≠ l) (a2 : Option Addr) (n2 c2 : Nat) (xs : List Sh.str.T) (hx : Sl h Sh.str xs (.slice a2 n2 c2)) (hne2 : ∀ l2 r, a2 = some ⟨l2, r, some 1⟩ → l2 ≠ l) (hn2 : 1 < n2 ∧ n2 ≤ 1000000) :
    ∃ (t : ByteArray) (h' : AHeap), ACall Try.prog 68 [.pointer (some ⟨l, 0, some 0⟩), .slice a2 n2 c2] h (.string t) h' ∧ t ∈ xs ∧ Drawn h h' l bytes a n c := by
  obtain ⟨r, h', hA, r0, _, r2, hd⟩ := draw_n h l bytes a n c s hne n2 (by omega)
  have en := hx.len
  have hx' : Sl h' Sh.str xs (.slice a2 n2 c2) := But.sl (l := l) ⟨hd.but_n, hd.but⟩ hx (fun _ _ _ hr => hr) hne2
  obtain ⟨t, hat⟩ : ∃ y : ByteArray, xs[r.toNat]? = some y := ⟨_, List.getElem?_eq_getElem (by have := r2 (by omega); omega)⟩
  obtain ⟨l3, r3, row, ha, _, hrd, hld⟩ := hx'.elem hat
  obtain rfl : row = [.string t] := hrd
  have : ∃ v g, ACall Try.prog 68 [.pointer (some ⟨l, 0, some 0⟩), .slice a2 n2 c2] h v g ∧ v = .string t ∧ g = h' := by
    refine acall_vc (fun _ => false) (fun _ => []) (fun _ => .none) mixed Try.func68 rfl rfl rfl (Nat.le_of_ble_eq_true rfl) (by refine vc_mp (by kernel_rfl : (True ∧ True ∧ True) = _) ?_; simp only [and_self]) ?_
    refine vc_mp (by kernel_rfl : (∃ (x : Int), ∃ (h'_1 : AHeap), ACall Try.prog (69 : Nat) [Value.pointer (some (Addr.mk l (0 : Nat) (some (0 : Nat)))), Value.int IntKind.i64 (↑n2 : Int)] h (Value.int IntKind.i64 x) h'_1 ∧ ∃ (l : Nat), ∃ (r : Nat), a2 = some (Addr.mk l r (some (1 : Nat))) ∧ (0 : Int) ≤ x ∧ x < (↑n2 : Int) ∧ ∃ (x_1 : ByteArray), AHeap.ld h'_1 l (r + Int.toNat x) (0 : Nat) (1 : Nat) = some [Value.string x_1] ∧ Value.string x_1 = Value.string t ∧ h'_1 = h') = _) ?_
    exact ⟨_, _, hA, l3, r3, ha, r0, r2 (by omega), _, hld, rfl, rfl⟩
  obtain ⟨_, _, hB, rfl, rfl⟩ := this
  exact ⟨_, _, hB, List.mem_of_getElem? hat, hd⟩
def l1L (h : AHeap) (a : Option Addr) (n c : Nat) : LSpec where
  ι := Nat × Int
  κ := Int
  I := fun i => i.1 ≤ n ∧ 0 ≤ i.2 ∧ i.2 < 18446744073709551616
  μ := fun i => n - i.1
  head := fun i => ⟨[(0, .slice a n c), (3, .pointer (some ⟨h.n, 0, some 0⟩)), (4, .int .i64 i.1)], [], h.push (srcO a n c 0 i.2 0)⟩
  post := fun j => ⟨[(0, .slice a n c), (3, .pointer (some ⟨h.n, 0, some 0⟩))], [], h.push (srcO a n c 0 j 0)⟩
  R := fun _ j => 0 ≤ j ∧ j < 18446744073709551616
  ret := fun _ _ _ => False
theorem l01Source_spec (h : AHeap) (hw : h.wf) (a : Option Addr) (n c : Nat) (bytes : List Sh.byte.T) (hx : Sl h Sh.byte bytes (.slice a n c)) (ok : (Sh.sl Sh.byte).ok bytes) :
    ∃ v h', ACall Try.prog 65 [.slice a n c] h v h' ∧ h.Le h' ∧ v = .pointer (some ⟨h.n, 0, some 0⟩) ∧ Src h' h.n bytes a n c := by
  have en := hx.len
  have hn : n ≤ 9223372036854775807 := by rw [← en]; exact ok.1
  refine acall_q fun Q HQ => ?_
  refine acall_vc (fun t => t == 7) (fun r => match r with | 5 => [(0, 0, []), (1, 0, []), (2, 0, []), (3, 0, []), (5, 0, []), (6, 0, []), (7, 0, []), (4, 1, []), (8, 1, []), (9, 0, []), (10, 0, []), (11, 0, []), (12, 0, []), (13, 0, []), (14, 3, [])] | _ => []) (fun _ => l1L h a n c) mixed Try.func65 rfl rfl rfl (Nat.le_of_ble_eq_true rfl) ?_ ?_
  · refine vc_mp (by kernel_rfl : (True ∧ True ∧ (True ∧ (∀ (i : Nat × Int), Prod.fst i ≤ n ∧ (0 : Int) ≤ Prod.snd i ∧ Prod.snd i < (18446744073709551616 : Int) → bs (decide ((↑(Prod.fst i) : Int) < (↑n : Int))) (bs (decide ((↑(Prod.fst i) : Int) < (64 : Int))) (∃ (l : Nat), ∃ (r : Nat), a = some (Addr.mk l r (some (1 : Nat))) ∧ (0 : Int) ≤ (↑(Prod.fst i) : Int) ∧ (↑(Prod.fst i) : Int) < (↑n : Int) ∧ ∃ (x : Int), AHeap.ld (AHeap.push h (srcO a n c (0 : Int) (Prod.snd i) (0 : Int))) (AHeap.n h) (0 : Nat) (2 : Nat) (1 : Nat) = some [Value.int IntKind.u64 x] ∧ ∃ (x_1 : Int), AHeap.ld (AHeap.push h (srcO a n c (0 : Int) (Prod.snd i) (0 : Int))) l (r + Int.toNat (↑(Prod.fst i) : Int)) (0 : Nat) (1 : Nat) = some [Value.int IntKind.u8 x_1] ∧ ∃ (h' : AHeap), AHeap.wr (AHeap.push h (srcO a n c (0 : Int) (Prod.snd i) (0 : Int))) (AHeap.n h) (0 : Nat) (2 : Nat) [Value.int IntKind.u64 (IntKind.wrap IntKind.u64 (IntKind.wrap IntKind.u64 (↑(BitVec.toNat (BitVec.ofInt (IntKind.bits IntKind.u64) x ^^^ BitVec.ofInt (IntKind.bits IntKind.u64) (IntKind.wrap IntKind.u64 x_1))) : Int) * (1099511628211 : Int)))] = some h' ∧ ∃ (j : Nat × Int), Value.slice a n c = Value.slice a n c ∧ Value.pointer (some (Addr.mk (AHeap.n h) (0 : Nat) (some (0 : Nat)))) = Value.pointer (some (Addr.mk (AHeap.n h) (0 : Nat) (some (0 : Nat)))) ∧ Value.int IntKind.i64 (IntKind.wrap IntKind.i64 ((↑(Prod.fst i) : Int) + (1 : Int))) = Value.int IntKind.i64 (↑(Prod.fst j) : Int) ∧ AHeap.push h (srcO a n c (0 : Int) (Prod.snd j) (0 : Int)) = h' ∧ (Prod.fst j ≤ n ∧ (0 : Int) ≤ Prod.snd j ∧ Prod.snd j < (18446744073709551616 : Int)) ∧ n - Prod.fst j < n - Prod.fst i ∧ (∀ (k : Int), (0 : Int) ≤ k ∧ k < (18446744073709551616 : Int) → (0 : Int) ≤ k ∧ k < (18446744073709551616 : Int)) ∧ ∀ (v : Value) (h : AHeap), False → False) (∃ (j : Int), Value.slice a n c = Value.slice a n c ∧ Value.pointer (some (Addr.mk (AHeap.n h) (0 : Nat) (some (0 : Nat)))) = Value.pointer (some (Addr.mk (AHeap.n h) (0 : Nat) (some (0 : Nat)))) ∧ AHeap.push h (srcO a n c (0 : Int) j (0 : Int)) = AHeap.push h (srcO a n c (0 : Int) (Prod.snd i) (0 : Int)) ∧ (0 : Int) ≤ j ∧ j < (18446744073709551616 : Int))) (∃ (j : Int), Value.slice a n c = Value.slice a n c ∧ Value.pointer (some (Addr.mk (AHeap.n h) (0 : Nat) (some (0 : Nat)))) = Value.pointer (some (Addr.mk (AHeap.n h) (0 : Nat) (some (0 : Nat)))) ∧ AHeap.push h (srcO a n c (0 : Int) j (0 : Int)) = AHeap.push h (srcO a n c (0 : Int) (Prod.snd i) (0 : Int)) ∧ (0 : Int) ≤ j ∧ j < (18446744073709551616 : Int))) ∧ (True ∧ True ∧ True) ∧ True ∧ True) ∧ True ∧ (True ∧ True ∧ True) ∧ True ∧ True) = _) ?_
    simp only [true_and, and_true]
    rintro ⟨i, mix⟩ ⟨hi, hm⟩
    dsimp only at *
    refine bs_d (fun hlt => ?_) (fun hge => ⟨mix, rfl, hm⟩)
    refine bs_d (fun h64 => ?_) (fun hge => ⟨mix, rfl, hm⟩)
    have hio : i < bytes.length := by omega
    obtain ⟨b, hat⟩ : ∃ y : Int, bytes[i]? = some y := ⟨_, List.getElem?_eq_getElem hio⟩
    obtain ⟨l, r, row, ha, _, hrd, hld⟩ := (hx.mono (.push hw (srcO a n c 0 mix 0))).elem hat
    obtain rfl : row = [.int .u8 b] := hrd
    refine ⟨l, r, ha, Int.natCast_nonneg _, hlt, _, src2 AHeap.get_push_eq, _, hld, _, srcw2 _ AHeap.get_push_eq, (i + 1, _), by rw [wrap_i64 (by omega)]; rfl, push_put'.symm, ⟨by dsimp only; omega, u64_wrap_bd _⟩, by dsimp only; omega, fun _ h => h, fun _ _ h => h⟩
  refine vc_mp (by kernel_rfl : (∃ (i : Nat × Int), Value.slice a n c = Value.slice a n c ∧ Value.pointer (some (Addr.mk (AHeap.n h) (0 : Nat) (some (0 : Nat)))) = Value.pointer (some (Addr.mk (AHeap.n h) (0 : Nat) (some (0 : Nat)))) ∧ Value.int IntKind.i64 (0 : Int) = Value.int IntKind.i64 (↑(Prod.fst i) : Int) ∧ AHeap.push h (srcO a n c (0 : Int) (Prod.snd i) (0 : Int)) = AHeap.push h (AObj.mk [[Value.slice a n c, Value.int IntKind.i64 (Int.ofNat (0 : Nat)), Value.int IntKind.u64 (88172645463325252 : Int), Value.int IntKind.i64 (Int.ofNat (0 : Nat))]] (4 : Nat) true) ∧ (Prod.fst i ≤ n ∧ (0 : Int) ≤ Prod.snd i ∧ Prod.snd i < (18446744073709551616 : Int)) ∧ (∀ (j : Int), (0 : Int) ≤ j ∧ j < (18446744073709551616 : Int) → (20 : Int) ≠ (0 : Int) ∧ ∃ (h' : AHeap), AHeap.wr (AHeap.push h (srcO a n c (0 : Int) j (0 : Int))) (AHeap.n h) (0 : Nat) (3 : Nat) [Value.int IntKind.i64 (IntKind.wrap IntKind.i64 (Int.tdiv (↑n : Int) (20 : Int)))] = some h' ∧ ∃ (x : Int), AHeap.ld h' (AHeap.n h) (0 : Nat) (3 : Nat) (1 : Nat) = some [Value.int IntKind.i64 x] ∧ bs (decide (x > (12 : Int))) (∃ (h'_1 : AHeap), AHeap.wr h' (AHeap.n h) (0 : Nat) (3 : Nat) [Value.int IntKind.i64 (12 : Int)] = some h'_1 ∧ Q (Value.pointer (some (Addr.mk (AHeap.n h) (0 : Nat) (some (0 : Nat))))) h'_1) (Q (Value.pointer (some (Addr.mk (AHeap.n h) (0 : Nat) (some (0 : Nat))))) h')) ∧ ∀ (v : Value) (h : AHeap), False → Q v h) = _) ?_
  have fin : ∀ (mix size : Int), (0 ≤ mix ∧ mix < 18446744073709551616) → (0 ≤ size ∧ size ≤ 12) → Q (.pointer (some ⟨h.n, 0, some 0⟩)) (h.push (srcO a n c 0 mix size)) := fun mix size hm hs =>
    HQ _ _ ⟨.push hw _, rfl, hw.push _, hx.mono (.push hw _), ok, ⟨0, mix, size, AHeap.get_push_eq, by omega, hm, hs⟩⟩
  refine ⟨(0, 88172645463325252), rfl, rfl, rfl, rfl, ⟨Nat.zero_le _, by dsimp only; omega, by dsimp only; omega⟩, fun mix hm => ⟨by omega, _, srcw3 _ AHeap.get_push_eq, ?_⟩, fun _ _ h => h.elim⟩
  rw [push_put']
  have e1 : Int.tdiv (n : Int) 20 = (n : Int) / 20 := Int.tdiv_eq_ediv_of_nonneg (by omega)
  refine ⟨_, src3 AHeap.get_push_eq, ?_⟩
  rw [e1, wrap_i64 (by omega)]
  refine bs_d (fun e => ⟨_, srcw3 _ AHeap.get_push_eq, ?_⟩) (fun e => fin _ _ hm (by omega))
  rw [push_put']
  exact fin _ _ hm (by omega)
end Go.Proofs.Ytanienlcebkijaa
end
section
namespace Go.Proofs.Ytanienlcebkijaa
open Go.Abs Go.Dat
def Srz (h : AHeap) (l : Nat) : Prop := ∃ bs a n c, Src h l bs a n c ∧ ∀ l2 r, a = some ⟨l2, r, some 1⟩ → l2 ≠ l
theorem Srz.wf {h : AHeap} {l : Nat} (s : Srz h l) : h.wf := by obtain ⟨_, _, _, _, s, _⟩ := s; exact s.wf
theorem Srz.lt {h : AHeap} {l : Nat} (s : Srz h l) : l < h.n := by
  obtain ⟨_, _, _, _, s, _⟩ := s
  obtain ⟨_, _, _, hg, _⟩ := s.obj
  exact s.wf.lt hg
theorem Srz.le {h h' : AHeap} {l : Nat} (s : Srz h l) (le : h.Le h') (wf : h'.wf) : Srz h' l := by
  obtain ⟨bs, a, n, c, s, hne⟩ := s
  obtain ⟨x, y, z, hg, h1⟩ := s.obj
  exact ⟨bs, a, n, c, ⟨wf, s.bytes.mono le, s.ok, x, y, z, le.get _ _ hg, h1⟩, hne⟩
theorem sl_lt {h : AHeap} (hw : h.wf) {s : Sh} {xs : List s.T} {a : Option Addr} {n c : Nat} (hx : Sl h s xs (.slice a n c)) : ∀ l2 r, a = some ⟨l2, r, some s.cells⟩ → l2 < h.n := by
  obtain ⟨a', n', c', rows, e, h1, h2, h3, h4⟩ := hx
  cases e
  rintro l2 r rfl
  unfold AHeap.rowsOf at h2
  dsimp only at h2
  split at h2
  · rename_i o ho
    exact hw.lt ho
  · cases h2
theorem Srz.ne {h : AHeap} {l : Nat} (s : Srz h l) {bs : List Sh.byte.T} {a : Option Addr} {n c : Nat} (x : Src h l bs a n c) : ∀ l2 r, a = some ⟨l2, r, some 1⟩ → l2 ≠ l := by
  obtain ⟨_, a', n', c', s, hne⟩ := s
  obtain ⟨_, _, _, h1, _⟩ := s.obj
  obtain ⟨_, _, _, h2, _⟩ := x.obj
  have e := h1.symm.trans h2
  simp only [srcO, Option.some.injEq, AObj.mk.injEq, List.cons.injEq, Value.slice.injEq, and_true, true_and] at e
  rw [← e.1.1]; exact hne
structure Dr (l : Nat) (h h' : AHeap) : Prop where
  s0 : Srz h l
  kp : Kp [l] h h'
  wf : h'.wf
  obj : ∀ bs a n c, Src h l bs a n c → ∃ at_ mix size : Int, h'.get l = some (srcO a n c at_ mix size) ∧ (0 ≤ at_ ∧ at_ ≤ n) ∧ (0 ≤ mix ∧ mix < 18446744073709551616) ∧ (0 ≤ size ∧ size ≤ 12)
theorem kp_but {l : Nat} {h h' : AHeap} (k : Kp [l] h h') : But l h h' := ⟨k.n, fun x o hx ho => k.get x o (by simpa using hx) ho⟩
theorem Dr.tr {l : Nat} {h h' : AHeap} (d : Dr l h h') {bs : List Sh.byte.T} {a : Option Addr} {n c : Nat} (x : Src h l bs a n c) : Src h' l bs a n c :=
  ⟨d.wf, (kp_but d.kp).sl x.bytes (fun _ _ _ hr => hr) (d.s0.ne x), x.ok, d.obj _ _ _ _ x⟩
theorem Dr.src {l : Nat} {h h' : AHeap} (d : Dr l h h') : Srz h' l := by
  obtain ⟨bs, a, n, c, s, hne⟩ := d.s0
  exact ⟨bs, a, n, c, d.tr s, hne⟩
theorem Dr.trans {l : Nat} {a b c : AHeap} (x : Dr l a b) (y : Dr l b c) : Dr l a c := ⟨x.s0, x.kp.trans y.kp, y.wf, fun bs p n q s => y.obj bs p n q (x.tr s)⟩
theorem Dr.refl {l : Nat} {a : AHeap} (s : Srz a l) : Dr l a a := ⟨s, .refl, s.wf, fun _ _ _ _ x => x.obj⟩
theorem Dr.step {l : Nat} {a b c : AHeap} (x : Dr l a b) {J : List Nat} (k : Kp J b c) (wf : c.wf) (hJ : ∀ z ∈ J, a.n ≤ z) : Dr l a c :=
  ⟨x.s0, Kp.drop x.s0.wf x.kp k (fun z hz => .inr (hJ z hz)), wf, fun bs p n q s => by
    obtain ⟨u, v, w, h1, h2⟩ := x.obj bs p n q s
    exact ⟨u, v, w, k.get l _ (fun e => by have := hJ l e; have := x.s0.lt; omega) h1, h2⟩⟩
theorem Dr.le {l : Nat} {a b c : AHeap} (x : Dr l a b) (le : b.Le c) (wf : c.wf) : Dr l a c := x.step (J := []) (.of_le le) wf (by simp)
theorem Dr.of {l : Nat} {a c : AHeap} (s : Srz a l) (le : a.Le c) (wf : c.wf) : Dr l a c := (Dr.refl s).le le wf
theorem Dr.of_drawn {h h' : AHeap} {l : Nat} {bs : List Sh.byte.T} {a : Option Addr} {n c : Nat} (s : Src h l bs a n c) (d : Drawn h h' l bs a n c) (hne : ∀ l2 r, a = some ⟨l2, r, some 1⟩ → l2 ≠ l) : Dr l h h' :=
  ⟨⟨bs, a, n, c, s, hne⟩, ⟨d.but_n, fun z o hz ho => d.but z o (fun e => hz (by simp [e])) ho⟩, d.src.wf, fun bs' a' n' c' s' => by
    obtain ⟨_, _, _, h1, _⟩ := s.obj
    obtain ⟨_, _, _, h2, _⟩ := s'.obj
    have e := h1.symm.trans h2
    simp only [srcO, Option.some.injEq, AObj.mk.injEq, List.cons.injEq, Value.slice.injEq, and_true, true_and] at e
    obtain ⟨⟨rfl, rfl, rfl⟩, _⟩ := e
    exact d.src.obj⟩
theorem Dr.top {h h1 g : AHeap} {l : Nat} (hw : h.wf) (le : h.Le h1) (hl : h.n ≤ l) (d : Dr l h1 g) : h.Le g :=
  Kp.le hw ((Kp.of_le (J := [l]) le).trans d.kp) (fun z hz => by simp only [List.mem_cons, List.not_mem_nil, or_false] at hz; omega)
theorem Dr.sob {l : Nat} {h h' : AHeap} (d : Dr l h h') {s : Sh} {n0 : Nat} {a : Option Addr} {n c : Nat} {xs : List s.T} {ids : List Nat} (B : SoB s (E0 n0) h a n c xs ids) (hl : l ∉ ids) : SoB s (E0 n0) h' a n c xs ids :=
  B.kp d.kp d.wf (fun z hz e => by simp only [List.mem_cons, List.not_mem_nil, or_false] at e; exact hl (e ▸ hz))
theorem Dr.sn {l : Nat} {h h' : AHeap} (d : Dr l h h') {s : Sh} {xs : List s.T} {v : Value} {ids : List Nat} (B : Sn h s xs v ids) (hl : l ∉ ids) : Sn h' s xs v ids :=
  B.kp d.kp (fun z hz e => by simp only [List.mem_cons, List.not_mem_nil, or_false] at e; exact hl (e ▸ hz))
set_option maxRecDepth 100000
set_option maxHeartbeats 8000000
theorem dr_n (h : AHeap) (l : Nat) (s : Srz h l) (most : Int) (hm : -9223372036854775808 ≤ most ∧ most ≤ 9223372036854775807) :
    ∃ (r : Int) (h' : AHeap), ACall Try.prog 69 [.pointer (some ⟨l, 0, some 0⟩), .int .i64 most] h (.int .i64 r) h' ∧ 0 ≤ r ∧ (most ≤ 1 → r = 0) ∧ (1 < most → r < most) ∧ Dr l h h' := by
  obtain ⟨bs, a, n, c, s, hne⟩ := s
  obtain ⟨r, h', hA, h1, h2, h3, d⟩ := draw_n h l bs a n c s hne most hm
  exact ⟨r, h', hA, h1, h2, h3, .of_drawn s d hne⟩
theorem dr_one (h : AHeap) (l : Nat) (s : Srz h l) (of : Int) (hm : -9223372036854775808 ≤ of ∧ of ≤ 9223372036854775807) :
    ∃ (r : Bool) (h' : AHeap), ACall Try.prog 66 [.pointer (some ⟨l, 0, some 0⟩), .int .i64 of] h (.bool r) h' ∧ Dr l h h' := by
  obtain ⟨bs, a, n, c, s, hne⟩ := s
  obtain ⟨r, h', hA, d⟩ := draw_one h l bs a n c s hne of hm
  exact ⟨r, h', hA, .of_drawn s d hne⟩
theorem dr_pick (h : AHeap) (l : Nat) (s : Srz h l) (a2 : Option Addr) (n2 c2 : Nat) (xs : List Sh.str.T) (hx : Sl h Sh.str xs (.slice a2 n2 c2)) (hne2 : ∀ l2 r, a2 = some ⟨l2, r, some 1⟩ → l2 ≠ l) (hn2 : 1 < n2 ∧ n2 ≤ 1000000) :
    ∃ (t : ByteArray) (h' : AHeap), ACall Try.prog 68 [.pointer (some ⟨l, 0, some 0⟩), .slice a2 n2 c2] h (.string t) h' ∧ t ∈ xs ∧ Dr l h h' := by
  obtain ⟨bs, a, n, c, s, hne⟩ := s
  obtain ⟨t, h', hA, h1, d⟩ := draw_pick h l bs a n c s hne a2 n2 c2 xs hx hne2 hn2
  exact ⟨t, h', hA, h1, .of_drawn s d hne⟩
theorem dr_new (h : AHeap) (hw : h.wf) (a : Option Addr) (n c : Nat) (bytes : List Sh.byte.T) (hx : Sl h Sh.byte bytes (.slice a n c)) (ok : (Sh.sl Sh.byte).ok bytes) :
    ∃ h', ACall Try.prog 65 [.slice a n c] h (.pointer (some ⟨h.n, 0, some 0⟩)) h' ∧ h.Le h' ∧ h'.wf ∧ Srz h' h.n := by
  obtain ⟨_, h', hA, le, rfl, s⟩ := l01Source_spec h hw a n c bytes hx ok
  exact ⟨h', hA, le, s.wf, _, _, _, _, s, fun l2 r e => by have := sl_lt hw hx l2 r e; omega⟩
end Go.Proofs.Ytanienlcebkijaa
end
section
namespace Go.Abs
end Go.Abs
end
section
namespace Go.Dat
open Go.Abs
def Sh.flat : Sh → Bool
  | .pair a b => a.flat && b.flat
  | .sl _ => false
  | _ => true
theorem Sh.flat_rn {h g : AHeap} : ∀ {s : Sh}, s.flat = true → ∀ {x : s.T} {cs : List Value}, s.rd h x cs → s.rn g x cs [] := by
  intro s
  induction s with
  | int => intro _ x cs e; exact ⟨e, rfl⟩
  | bool => intro _ x cs e; exact ⟨e, rfl⟩
  | str => intro _ x cs e; exact ⟨e, rfl⟩
  | byte => intro _ x cs e; exact ⟨e, rfl⟩
  | pair a b iha ihb =>
    rintro hf x cs ⟨c1, c2, rfl, h1, h2⟩
    have hf' : a.flat = true ∧ b.flat = true := by simpa [Sh.flat] using hf
    exact ⟨c1, c2, [], [], rfl, rfl, iha hf'.1 h1, ihb hf'.2 h2⟩
  | sl e ih => intro hf; cases hf
theorem Sh.rd_leaf {h : AHeap} : ∀ {s : Sh} {x : s.T} {cs : List Value}, s.rd h x cs → ∀ v ∈ cs, oneLeaf v = true := by
  intro s
  induction s with
  | int => rintro x cs rfl v hv; rw [List.mem_singleton.1 hv]; rfl
  | bool => rintro x cs rfl v hv; rw [List.mem_singleton.1 hv]; rfl
  | str => rintro x cs rfl v hv; rw [List.mem_singleton.1 hv]; rfl
  | byte => rintro x cs rfl v hv; rw [List.mem_singleton.1 hv]; rfl
  | pair a b iha ihb =>
    rintro x cs ⟨c1, c2, rfl, h1, h2⟩ v hv
    rcases List.mem_append.1 hv with hv | hv
    · exact iha h1 v hv
    · exact ihb h2 v hv
  | sl e ih =>
    rintro x cs ⟨a, n, c, rows, rfl, _⟩ v hv
    rw [List.mem_singleton.1 hv]; rfl
theorem Sl.rows {h : AHeap} {s : Sh} {xs : List s.T} {a : Option Addr} {n c : Nat} (x : Sl h s xs (.slice a n c)) :
    ∃ rows, h.rowsOf (.slice a n c) = some rows ∧ rows.length = n ∧ (rows.all fun row => decide (row.length = s.cells) && row.all fun v => match v with | .agg _ => false | .tuple _ => false | .complex _ _ _ => false | .chan _ => false | _ => true) = true ∧
      ∀ (i : Nat) (y : s.T) (row : List Value), xs[i]? = some y → rows[i]? = some row → s.rd h y row := by
  obtain ⟨a', n', c', rows, e, h1, h2, h3, h4⟩ := x
  cases e
  have hl := rowsOf_len h1 h2
  refine ⟨rows, h2, hl, List.all_eq_true.2 fun row hr => ?_, h4⟩
  obtain ⟨i, hi⟩ := List.mem_iff_getElem?.1 hr
  have hlt := (List.getElem?_eq_some_iff.1 hi).1
  have rd := h4 i _ row (List.getElem?_eq_getElem (by omega)) hi
  rw [Bool.and_eq_true]
  exact ⟨decide_eq_true (Sh.rd_len rd), List.all_eq_true.2 fun v hv => Sh.rd_leaf rd v hv⟩
theorem flat_nil : ∀ n : Nat, (List.replicate n ([] : List Nat)).flatten = []
  | 0 => rfl
  | n + 1 => by rw [List.replicate_succ, List.flatten_cons, flat_nil n]; rfl
theorem SoB.flat {s : Sh} (hf : s.flat = true) {h0 h g : AHeap} {xs : List s.T} {n l c : Nat} {rows : List (List Value)} (le : h0.Le h) (wf : h.wf) (wf0 : h0.wf) (hn : h0.n ≤ l) (hx : xs.length = n) (hg : h.get l = some ⟨rows, s.cells, true⟩) (hr : rows.length = n) (hc : c = 0 ∨ c = n + 1)
    (hrd : ∀ (i : Nat) (y : s.T) (row : List Value), xs[i]? = some y → rows[i]? = some row → s.rd g y row) : SoB s h0 h (some ⟨l, 0, some s.cells⟩) n c xs [l] := by
  refine ⟨le, wf, wf0, hx, ⟨by simp, fun z hz => ?_⟩, .inr ⟨l, rows, List.replicate n [], rfl, hg, hr, by simp, by rw [flat_nil], hc, fun i x row js h1 h2 h3 => ?_⟩⟩
  · rw [List.mem_singleton.1 hz]; exact ⟨hn, wf.lt hg⟩
  · rw [List.eq_of_mem_replicate (List.mem_of_getElem? h3)]
    exact Sh.flat_rn hf (hrd i x row h1 h2)
end Go.Dat
end
section
namespace Go.Dat
open Go.Abs
abbrev chkR (z : Nat) (rows : List (List Value)) : Prop := (rows.all fun row => decide (row.length = z) && row.all fun v => match v with | .agg _ => false | .tuple _ => false | .complex _ _ _ => false | .chan _ => false | _ => true) = true
theorem chkR.drop {z i : Nat} {rows : List (List Value)} (h : chkR z rows) : chkR z (rows.drop i) := List.all_eq_true.2 fun x hx => List.all_eq_true.1 h x (List.mem_of_mem_drop hx)
theorem chkR.take {z i : Nat} {rows : List (List Value)} (h : chkR z rows) : chkR z (rows.take i) := List.all_eq_true.2 fun x hx => List.all_eq_true.1 h x (List.mem_of_mem_take hx)
end Go.Dat
namespace Go.Abs
end Go.Abs
end
section
namespace Go.Dat
open Go.Abs
def IdxRes (P : Nat → Prop) (n : Nat) (r : Int) : Prop := (r = -1 ∧ ∀ i, i < n → ¬ P i) ∨ ∃ i : Nat, i < n ∧ r = i ∧ P i ∧ ∀ j, j < i → ¬ P j
def SameV (x y : voteSh.T) : Prop := (show Int from x.1) = y.1 ∧ (show Int from x.2.1) = y.2.1 ∧ (show Int from x.2.2.1) = y.2.2.1 ∧ (show Int from x.2.2.2.2) = y.2.2.2.2
def VoteAt (xs : List voteSh.T) (y : voteSh.T) (i : Nat) : Prop := ∃ x : voteSh.T, xs[i]? = some x ∧ SameV x y
def VotOk (k v q : Int) (op : ByteArray) (f : Int) : Prop := (k = 2 ∨ k = 3) ∧ InR 0 7 v ∧ InR 1 6 q ∧ op.size ≤ 120 ∧ InR 0 3 f
end Go.Dat
namespace Go.Proofs.Ytanienlcebkijaa
open Go.Abs Go.Dat
set_option maxRecDepth 100000
set_option maxHeartbeats 8000000
end Go.Proofs.Ytanienlcebkijaa
end
section
namespace Go.Dat
open Go.Abs
def VtAt (xs : List voteSh.T) (i : Nat) : Prop := ∃ x : voteSh.T, xs[i]? = some x ∧ VotOk x.1 x.2.1 x.2.2.1 x.2.2.2.1 x.2.2.2.2 ∧ ∀ j, j < i → ¬ VoteAt xs x j
theorem VtAt.out {xs : List voteSh.T} {i : Nat} {k v q f : Int} {op : ByteArray} (H : VtAt xs i) (e : xs[i]? = some (k, v, q, op, f)) : VotOk k v q op f ∧ ∀ j, j < i → ¬ VoteAt xs (k, v, q, op, f) j := by
  obtain ⟨x, e', h1, h2⟩ := H
  rw [e] at e'
  cases e'
  exact ⟨h1, h2⟩
theorem IdxRes.low {P : Nat → Prop} {n : Nat} {r : Int} (H : IdxRes P n r) {i : Nat} (hi : i < n) (hP : P i) : (r < i ↔ ¬ ∀ j, j < i → ¬ P j) := by
  rcases H with ⟨_, h⟩ | ⟨m, hm, rfl, h1, h2⟩
  · exact absurd hP (h i hi)
  · constructor
    · intro hlt hn
      exact hn m (by omega) h1
    · intro hn
      refine Classical.byContradiction fun hge => hn fun j hj => h2 j (by omega)
theorem rows_take' {h : AHeap} {l r e n c i c' : Nat} {rows : List (List Value)} (hr : h.rowsOf (.slice (some ⟨l, r, some e⟩) n c) = some rows) (hi : i ≤ n) : h.rowsOf (.slice (some ⟨l, r, some e⟩) i c') = some (rows.take i) := by
  unfold AHeap.rowsOf at hr ⊢
  dsimp only at hr ⊢
  cases hg : h.get l with
  | none => rw [hg] at hr; cases hr
  | some o =>
    rw [hg] at hr
    dsimp only at hr ⊢
    cases h1 : o.esz == e with
    | false => rw [h1] at hr; cases hr
    | true =>
      rw [h1] at hr
      simp only [Bool.true_and] at hr ⊢
      by_cases h2 : r + n ≤ o.rows.length
      · rw [decide_eq_true h2] at hr
        rw [decide_eq_true (by omega : r + i ≤ o.rows.length)]
        cases hr
        show some _ = some _
        rw [List.take_take, Nat.min_eq_left hi]
      · rw [decide_eq_false h2] at hr; cases hr
theorem Sl.take {h : AHeap} {s : Sh} {xs : List s.T} {l r n c i c' : Nat} (x : Sl h s xs (.slice (some ⟨l, r, some s.cells⟩) n c)) (hi : i ≤ n) : Sl h s (xs.take i) (.slice (some ⟨l, r, some s.cells⟩) i c') := by
  obtain ⟨a', n', c'', rows, e, h1, h2, h3, h4⟩ := x
  cases e
  have up : ∀ {α : Type} {ys : List α} {j : Nat} {y : α}, (ys.take i)[j]? = some y → ys[j]? = some y := fun {_ ys j y} h => by
    rw [List.getElem?_take] at h
    split at h
    · exact h
    · cases h
  exact ⟨_, _, _, rows.take i, rfl, .inr ⟨_, _, rfl⟩, rows_take' h2 hi, by rw [List.length_take]; omega, fun j y row hy hr => h4 j y row (up hy) (up hr)⟩
theorem VoteAt.pre {xs : List voteSh.T} {y : voteSh.T} {i j : Nat} (hj : j < i) : VoteAt (xs.take i) y j ↔ VoteAt xs y j := by
  unfold VoteAt
  rw [List.getElem?_take, if_pos hj]
end Go.Dat
namespace Go.Proofs.Ytanienlcebkijaa
open Go.Abs Go.Dat
set_option maxRecDepth 100000
set_option maxHeartbeats 8000000
end Go.Proofs.Ytanienlcebkijaa
end
section
namespace Go.Dat
open Go.Abs
end Go.Dat
end
section
namespace Go.Dat
open Go.Abs
structure Cpy (s : Sh) (h0 h : AHeap) (xs : List s.T) (l c : Nat) (rows : List (List Value)) : Prop where
  le : h0.Le h
  wf : h.wf
  new : h0.n ≤ l
  get : h.get l = some ⟨rows, s.cells, true⟩
  len : rows.length = xs.length
  cap : c = 0 ∨ c = xs.length + 1
  rd : ∀ (i : Nat) (y : s.T) (row : List Value), xs[i]? = some y → rows[i]? = some row → s.rd h0 y row
structure OwI (s : Sh) (h0 : AHeap) (l : Nat) (xs : List s.T) (rows0 : List (List Value)) (i : Nat) (h : AHeap) (rows : List (List Value)) (idss : List (List Nat)) : Prop where
  hi : i ≤ xs.length
  wf0 : h0.wf
  wf : h.wf
  le : h0.Le h
  new : h0.n ≤ l
  get : h.get l = some ⟨rows, s.cells, true⟩
  len0 : rows0.length = xs.length
  len : rows.length = xs.length
  il : idss.length = i
  fr : Fresh h0.n h.n (l :: idss.flatten)
  rd0 : ∀ (j : Nat) (y : s.T) (row : List Value), xs[j]? = some y → rows0[j]? = some row → s.rd h0 y row
  done : ∀ (j : Nat) (y : s.T) (row : List Value) (js : List Nat), xs[j]? = some y → rows[j]? = some row → idss[j]? = some js → s.rn h y row js
  rest : ∀ j, i ≤ j → rows[j]? = rows0[j]?
theorem OwI.start {s : Sh} {h0 h : AHeap} {xs : List s.T} {l c : Nat} {rows : List (List Value)} (hw : h0.wf) (C : Cpy s h0 h xs l c rows) : OwI s h0 l xs rows 0 h rows [] :=
  ⟨Nat.zero_le _, hw, C.wf, C.le, C.new, C.get, C.len, C.len, rfl, ⟨by simp, fun z hz => by obtain rfl : z = l := (by simpa using hz); exact ⟨C.new, C.wf.lt C.get⟩⟩, C.rd, fun j y row js _ _ h => (by cases h), fun _ _ => rfl⟩
theorem fresh_add {a b c l : Nat} {i j : List Nat} (x : Fresh a b (l :: i)) (y : Fresh b c j) (hbc : b ≤ c) (hab : a ≤ b) : Fresh a c (l :: (i ++ j)) := x.append hab hbc y
theorem OwI.step {s : Sh} {h0 : AHeap} {l : Nat} {xs : List s.T} {rows0 : List (List Value)} {i : Nat} {h h1 : AHeap} {rows : List (List Value)} {idss : List (List Nat)} {y : s.T} {cs : List Value} {js : List Nat}
    (I : OwI s h0 l xs rows0 i h rows idss) (hy : xs[i]? = some y) (le : h.Le h1) (wf : h1.wf) (rn : s.rn h1 y cs js) (fj : Fresh h.n h1.n js) :
    OwI s h0 l xs rows0 (i + 1) (h1.put l (some ⟨rows.set i cs, s.cells, true⟩)) (rows.set i cs) (idss ++ [js]) := by
  have hil : i < xs.length := (List.getElem?_eq_some_iff.1 hy).1
  have hg := le.get _ _ I.get
  have hll := I.wf.lt I.get
  have ndl := List.nodup_cons.1 I.fr.nd
  have keep : ∀ z o, z ≠ l → h1.get z = some o → (h1.put l (some ⟨rows.set i cs, s.cells, true⟩)).get z = some o := fun z o hz ho => by rw [AHeap.get_put_ne hz]; exact ho
  have lenI := I.len
  have ilI := I.il
  refine ⟨hil, I.wf0, wf.put (wf.lt hg) _, (I.le.trans le).put (I.wf0 l I.new) _, I.new, AHeap.get_put_eq, I.len0, by rw [List.length_set]; exact I.len, by rw [List.length_append, I.il]; rfl, ?_, I.rd0, ?_, fun j hj => ?_⟩
  · rw [List.flatten_append, List.flatten_singleton]
    exact fresh_add I.fr fj le.n (by have := I.new; omega)
  · intro j z row q h1' h2 h3
    rcases getElem?_snoc h3 with ⟨hj, h3⟩ | ⟨hj, rfl⟩
    · rw [List.getElem?_set, if_neg (by omega)] at h2
      exact ((I.done j z row q h1' h2 h3).le le).keep (fun w hw' o => keep w o (fun e => ndl.1 (List.mem_flatten.2 ⟨q, List.mem_of_getElem? h3, e ▸ hw'⟩)))
    · rw [I.il] at hj
      subst hj
      rw [List.getElem?_set, if_pos rfl, if_pos (by omega)] at h2
      cases h2
      rw [hy] at h1'; cases h1'
      exact rn.keep (fun w hw' o => keep w o (fun e => by have := fj.bd w hw'; omega))
  · rw [List.getElem?_set, if_neg (by omega)]
    exact I.rest j (by omega)
theorem OwI.row {s : Sh} {h0 : AHeap} {l : Nat} {xs : List s.T} {rows0 : List (List Value)} {i : Nat} {h : AHeap} {rows : List (List Value)} {idss : List (List Nat)} {y : s.T}
    (I : OwI s h0 l xs rows0 i h rows idss) (hy : xs[i]? = some y) : ∃ row, rows[i]? = some row ∧ s.rd h0 y row ∧ h.ld l i 0 s.cells = some row := by
  have hil : i < xs.length := (List.getElem?_eq_some_iff.1 hy).1
  have hr : rows[i]? = some (rows[i]'(by rw [I.len]; exact hil)) := List.getElem?_eq_getElem _
  have rd := I.rd0 i y _ hy (by rw [← I.rest i (Nat.le_refl _)]; exact hr)
  refine ⟨_, hr, rd, ?_⟩
  have hc := Sh.rd_len rd
  unfold AHeap.ld
  rw [I.get]
  dsimp only
  rw [hr]
  dsimp only
  rw [decide_eq_true (by omega), cond_true, List.drop_zero, List.take_of_length_le (by omega)]
theorem OwI.sn {s : Sh} {h0 : AHeap} {l : Nat} {xs : List s.T} {rows0 : List (List Value)} {h : AHeap} {rows : List (List Value)} {idss : List (List Nat)} {c : Nat}
    (I : OwI s h0 l xs rows0 xs.length h rows idss) : Sn h s xs (.slice (some ⟨l, 0, some s.cells⟩) xs.length c) (l :: idss.flatten) :=
  ⟨_, _, c, rfl, rfl, .inr ⟨l, 0, rows, idss, rfl, I.get, by rw [I.len]; omega, I.il, rfl, fun i x row js h1 h2 h3 => I.done i x row js h1 (by rw [Nat.zero_add] at h2; exact h2) h3⟩⟩
end Go.Dat
end
section
namespace Go.Dat
open Go.Abs
structure CmpI (xs : List ByteArray) (k0 k2 k : Nat) (ys : List ByteArray) : Prop where
  len : ys.length = xs.length
  h0 : k0 ≤ k
  hk : k + 1 ≤ k0 + k2
  h2 : 1 ≤ k2
  hn : k0 + k2 ≤ xs.length
  same : ∀ p, k0 + k2 ≤ p + 1 → ys[p]? = xs[p]?
  mem : ∀ t, t ∈ ys.take k ↔ t ∈ xs.take (k0 + k2)
theorem take_succ_mem {α : Type} {xs : List α} {n : Nat} {x t : α} (h : xs[n]? = some x) : t ∈ xs.take (n + 1) ↔ t ∈ xs.take n ∨ t = x := by
  have hl := (List.getElem?_eq_some_iff.1 h).1
  have hx : xs[n] = x := by rw [List.getElem?_eq_getElem hl] at h; cases h; rfl
  rw [List.take_succ_eq_append_getElem hl, List.mem_append, List.mem_singleton, hx]
theorem mem_take_get {α : Type} {xs : List α} {n m : Nat} {x : α} (h : xs[n]? = some x) (hm : n < m) : x ∈ xs.take m := List.mem_of_getElem? (show (xs.take m)[n]? = some x by rw [List.getElem?_take, if_pos hm]; exact h)
theorem CmpI.start {xs : List ByteArray} {k0 : Nat} {x : ByteArray} (h1 : 1 ≤ k0) (ha : xs[k0 - 1]? = some x) (hb : xs[k0]? = some x) : CmpI xs k0 1 k0 xs := by
  have hl := (List.getElem?_eq_some_iff.1 hb).1
  refine ⟨rfl, Nat.le_refl _, Nat.le_refl _, Nat.le_refl _, by omega, fun _ _ => rfl, fun t => ?_⟩
  rw [take_succ_mem hb]
  exact ⟨.inl, fun h => h.elim id fun e => by rw [e]; exact mem_take_get ha (by omega)⟩
theorem CmpI.step {xs ys : List ByteArray} {k0 k2 k : Nat} {x : ByteArray} (I : CmpI xs k0 k2 k ys) (hb : xs[k0 + k2]? = some x) : CmpI xs k0 (k2 + 1) (k + 1) (ys.set k x) := by
  have hl := (List.getElem?_eq_some_iff.1 hb).1
  have h2 := I.h2
  have hk := I.hk
  have h0 := I.h0
  have hlen := I.len
  refine ⟨by rw [List.length_set]; exact I.len, by omega, by omega, by omega, by omega, fun p hp => ?_, fun t => ?_⟩
  · rw [List.getElem?_set, if_neg (by omega)]
    exact I.same p (by omega)
  · have hs : (ys.set k x)[k]? = some x := by rw [List.getElem?_set, if_pos rfl, if_pos (by omega)]
    rw [show k0 + (k2 + 1) = k0 + k2 + 1 by omega, take_succ_mem hb, take_succ_mem hs, ← I.mem, List.take_set_of_le (Nat.le_refl _)]
end Go.Dat
end
section
namespace Go.Dat
open Go.Abs
end Go.Dat
end
section
namespace Go.Dat
open Go.Abs
def ChAt (xs : List changeSh.T) (f v : Int) (i : Nat) : Prop := ∃ x : changeSh.T, xs[i]? = some x ∧ (show Int from x.1) = f ∧ (show Int from x.2.1) = v
def CgAt (xs : List changeSh.T) (i : Nat) : Prop := ∃ x : changeSh.T, xs[i]? = some x ∧ ChgOk x.1 x.2.1 x.2.2 ∧ ∀ j, j < i → ¬ ChAt xs x.1 x.2.1 j
theorem CgAt.out {xs : List changeSh.T} {i : Nat} {f v : Int} {p : List proofSh.T} (H : CgAt xs i) (e : xs[i]? = some (f, v, p)) : ChgOk f v p ∧ ∀ j, j < i → ¬ ChAt xs f v j := by
  obtain ⟨x, e', h1, h2⟩ := H
  rw [e] at e'
  cases e'
  exact ⟨h1, h2⟩
theorem ChAt.pre {xs : List changeSh.T} {f v : Int} {i j : Nat} (hj : j < i) : ChAt (xs.take i) f v j ↔ ChAt xs f v j := by
  unfold ChAt
  rw [List.getElem?_take, if_pos hj]
theorem IdxRes.none {P : Nat → Prop} {n : Nat} {r : Int} (H : IdxRes P n r) : r < 0 ↔ ∀ j, j < n → ¬ P j := by
  rcases H with ⟨rfl, h⟩ | ⟨m, hm, rfl, h1, h2⟩
  · exact ⟨fun _ => h, fun _ => by decide⟩
  · exact ⟨fun hlt => by omega, fun H => absurd h1 (H m hm)⟩
end Go.Dat
namespace Go.Proofs.Ytanienlcebkijaa
open Go.Abs Go.Dat
set_option maxRecDepth 100000
set_option maxHeartbeats 8000000
end Go.Proofs.Ytanienlcebkijaa
end
section
namespace Go.Dat
open Go.Abs
end Go.Dat
namespace Go.Proofs.Ytanienlcebkijaa
open Go.Abs Go.Dat
set_option maxRecDepth 100000
set_option maxHeartbeats 8000000
theorem newRight_spec (h : AHeap) (k f v q : Int) (op : ByteArray) (cs : List changeSh.T) (a : Option Addr) (c : Nat) (h1 : Sl h changeSh cs (.slice a cs.length c)) (ok : (Sh.sl changeSh).ok cs) :
    ACall Try.prog 47 [.agg #[.int .i64 k, .int .i64 f, .int .i64 v, .int .i64 q, .string op, .slice a cs.length c]] h (.bool (tr (k = 5 ∧ SayOk k f v q op cs))) h := by
  refine acall_out (acall_vc (fun _ => false) (fun _ => []) (fun _ => .none) mixed Try.func47 rfl rfl rfl (Nat.le_of_ble_eq_true rfl) (by refine vc_mp (by kernel_rfl : (True ∧ True ∧ True) = _) ?_; simp only [and_self]) ?_)
  refine vc_mp (by kernel_rfl : (bs (decide (k = (5 : Int))) (∃ (x : Bool), ∃ (h' : AHeap), ACall Try.prog (39 : Nat) [Value.agg (Array.mk [Value.int IntKind.i64 k, Value.int IntKind.i64 f, Value.int IntKind.i64 v, Value.int IntKind.i64 q, Value.string op, Value.slice a (List.length cs) c])] h (Value.bool x) h' ∧ Value.bool x = Value.bool (tr (k = (5 : Int) ∧ SayOk k f v q op cs)) ∧ h' = h) (Value.bool false = Value.bool (tr (k = (5 : Int) ∧ SayOk k f v q op cs)) ∧ h = h)) = _) ?_
  refine bs_d (fun e => ⟨_, _, sayRight_spec h k f v q op cs a c h1 ok, congrArg _ (tr_congr ⟨fun H => ⟨e, H⟩, fun H => H.2⟩), rfl⟩) (fun e => ⟨congrArg _ (tr_false fun H => e H.1), rfl⟩)
end Go.Proofs.Ytanienlcebkijaa
end
section
namespace Go.Proofs.Ytanienlcebkijaa
open Go.Abs Go.Dat
set_option maxRecDepth 100000
set_option maxHeartbeats 8000000
theorem implNewRight_spec (h : AHeap) (k f v q : Int) (op : ByteArray) (cs : List changeSh.T) (a : Option Addr) (c : Nat) (h1 : Sl h changeSh cs (.slice a cs.length c)) (ok : (Sh.sl changeSh).ok cs) :
    ACall Try.prog 46 [.agg #[.int .i64 k, .int .i64 f, .int .i64 v, .int .i64 q, .string op, .slice a cs.length c]] h (.bool (tr (k = 5 ∧ SayOk k f v q op cs))) h := by
  refine acall_out (acall_vc (fun _ => false) (fun _ => []) (fun _ => .none) mixed Try.func46 rfl rfl rfl (Nat.le_of_ble_eq_true rfl) (by refine vc_mp (by kernel_rfl : (True ∧ True ∧ True) = _) ?_; simp only [and_self]) ?_)
  refine vc_mp (by kernel_rfl : (bs (decide (k = (5 : Int))) (∃ (x : Bool), ∃ (h' : AHeap), ACall Try.prog (97 : Nat) [Value.agg (Array.mk [Value.int IntKind.i64 k, Value.int IntKind.i64 f, Value.int IntKind.i64 v, Value.int IntKind.i64 q, Value.string op, Value.slice a (List.length cs) c])] h (Value.bool x) h' ∧ Value.bool x = Value.bool (tr (k = (5 : Int) ∧ SayOk k f v q op cs)) ∧ h' = h) (Value.bool false = Value.bool (tr (k = (5 : Int) ∧ SayOk k f v q op cs)) ∧ h = h)) = _) ?_
  refine bs_d (fun e => ⟨_, _, isSay_spec h k f v q op cs a c h1 ok, congrArg _ (tr_congr ⟨fun H => ⟨e, H⟩, fun H => H.2⟩), rfl⟩) (fun e => ⟨congrArg _ (tr_false fun H => e H.1), rfl⟩)
end Go.Proofs.Ytanienlcebkijaa
end
section
namespace Go.Dat
open Go.Abs
structure OX (α : Type) where
  a : Option Addr
  c : Nat
  xs : List α
  ids : List Nat
  g : AHeap
def OXok (s : Sh) (h : AHeap) (o : OX s.T) : Prop := SoB s h o.g o.a o.xs.length o.c o.xs o.ids
theorem OXok.nil {s : Sh} {h : AHeap} (hw : h.wf) : OXok s h ⟨none, 0, [], [], h⟩ := SoB.nil hw
theorem OXok.grow {s : Sh} {h : AHeap} {o : OX s.T} (B : OXok s h o) {g' : AHeap} (le : o.g.Le g') (wf : g'.wf) : OXok s h ⟨o.a, o.c, o.xs, o.ids, g'⟩ := SoB.grow B le wf
theorem OXok.app {s : Sh} {h : AHeap} {o : OX s.T} (B : OXok s h o) {x : s.T} {cs : List Value} {js : List Nat} (rn : s.rn o.g x cs js) (fj : Fresh h.n o.g.n js) (d : ∀ z ∈ o.ids, z ∉ js) :
    ∃ o' : OX s.T, (o.g.push ⟨[cs], s.cells, true⟩).app (.slice o.a o.xs.length o.c) [cs] s.cells = some (.slice o'.a o'.xs.length o'.c, o'.g) ∧ OXok s h o' ∧ o'.xs = o.xs ++ [x] ∧ o.g.n ≤ o'.g.n ∧ (∀ z w, z ∉ o.ids → o.g.get z = some w → o'.g.get z = some w) ∧ ∀ z ∈ o'.ids, z = o.g.n + 1 ∨ z ∈ o.ids ∨ z ∈ js := by
  have lp := AHeap.Le.push B.wf ⟨[cs], s.cells, true⟩
  obtain ⟨l, h', ids', e, B', hn, hi, hk⟩ := (SoB.grow B lp (B.wf.push _)).app (rn.le lp) (fj.widen (Nat.le_refl _) lp.n) d
  have el : (o.xs ++ [x]).length = o.xs.length + 1 := by simp
  refine ⟨⟨some ⟨l, 0, some s.cells⟩, 0, o.xs ++ [x], ids', h'⟩, by dsimp only; rw [el]; exact e, ?_, rfl, Nat.le_trans lp.n hn, fun z w hz hw => hk z w hz (lp.get z w hw), fun z hz => hi z hz⟩
  show SoB s h h' (some ⟨l, 0, some s.cells⟩) (o.xs ++ [x]).length 0 (o.xs ++ [x]) ids'
  rw [el]; exact B'
theorem OXok.sn {s : Sh} {h : AHeap} {o : OX s.T} (B : OXok s h o) : Sn o.g s o.xs (.slice o.a o.xs.length o.c) o.ids := SoB.sn B
end Go.Dat
namespace Go.Proofs.Ytanienlcebkijaa
open Go.Abs Go.Dat
set_option maxRecDepth 100000
set_option maxHeartbeats 8000000
end Go.Proofs.Ytanienlcebkijaa
end
section
namespace Go.Proofs.Ytanienlcebkijaa
open Go.Abs Go.Dat
structure DL (s : Sh) (h : AHeap) (l : Nat) (o : OX s.T) : Prop where
  B : SoB s (E0 h.n) o.g o.a o.xs.length o.c o.xs o.ids
  out : Dr l h o.g
theorem DL.nl {s : Sh} {h : AHeap} {l : Nat} {o : OX s.T} (D : DL s h l o) : l ∉ o.ids := fun e => by
  have h1 : h.n ≤ l := (D.B.fr.bd l e).1
  have := D.out.s0.lt
  omega
theorem DL.dr {s : Sh} {h : AHeap} {l : Nat} {o : OX s.T} (D : DL s h l o) {g : AHeap} (d : Dr l o.g g) : DL s h l ⟨o.a, o.c, o.xs, o.ids, g⟩ :=
  ⟨d.sob D.B D.nl, D.out.trans d⟩
theorem DL.sn {s : Sh} {h : AHeap} {l : Nat} {o : OX s.T} (D : DL s h l o) : Sn o.g s o.xs (.slice o.a o.xs.length o.c) o.ids := D.B.sn
theorem DL.nil {s : Sh} {h : AHeap} {l : Nat} (z : Srz h l) : DL s h l ⟨none, 0, [], [], h⟩ := ⟨.new z.wf (Nat.le_refl _), .refl z⟩
theorem DL.lit {s : Sh} {h : AHeap} {l : Nat} (z : Srz h l) : DL s h l ⟨some ⟨h.n, 0, some s.cells⟩, 1, [], [h.n], h.push ⟨[], s.cells, true⟩⟩ := by
  have lp := AHeap.Le.push z.wf ⟨[], s.cells, true⟩
  have wp := z.wf.push ⟨[], s.cells, true⟩
  refine ⟨⟨E0.le lp.n, wp, E0.wf, rfl, ?_, .inr ⟨h.n, [], [], rfl, AHeap.get_push_eq, rfl, rfl, rfl, .inr rfl, fun i x row js h1 => by cases h1⟩⟩, .of z lp wp⟩
  exact Fresh.one (show h.n < h.n + 1 by omega)
theorem DL.app {s : Sh} {h : AHeap} {l : Nat} {o : OX s.T} (D : DL s h l o) {x : s.T} {cs : List Value} {js : List Nat} (rn : s.rn o.g x cs js) (fj : Fresh h.n o.g.n js) (d : ∀ z ∈ o.ids, z ∉ js) :
    ∃ (lo : Nat) (o' : OX s.T), (o.g.push ⟨[cs], s.cells, true⟩).app (.slice o.a o.xs.length o.c) [cs] s.cells = some (.slice (some ⟨lo, 0, some s.cells⟩) (o.xs.length + 1) o'.c, o'.g) ∧ o'.a = some ⟨lo, 0, some s.cells⟩ ∧ DL s h l o' ∧ o'.xs = o.xs ++ [x] ∧ ∀ z ∈ o'.ids, z = o.g.n + 1 ∨ z ∈ o.ids ∨ z ∈ js := by
  have lp := AHeap.Le.push D.out.wf ⟨[cs], s.cells, true⟩
  have wp := D.out.wf.push ⟨[cs], s.cells, true⟩
  obtain ⟨lo, h', ids', e, B', k, wf', hi⟩ := (SoB.grow D.B lp wp).app' (rn.le lp) (fj.widen (Nat.le_refl _) lp.n) d
  refine ⟨lo, ⟨some ⟨lo, 0, some s.cells⟩, 0, o.xs ++ [x], ids', h'⟩, e, rfl, ⟨?_, (D.out.le lp wp).step k wf' (fun z hz => (D.B.fr.bd z hz).1)⟩, rfl, fun z hz => hi z hz⟩
  have el : (o.xs ++ [x]).length = o.xs.length + 1 := by simp
  show SoB s (E0 h.n) h' (some ⟨lo, 0, some s.cells⟩) (o.xs ++ [x]).length 0 (o.xs ++ [x]) ids'
  rw [el]; exact B'
end Go.Proofs.Ytanienlcebkijaa
end
section
namespace Go.Proofs
open Go.Shelf
end Go.Proofs
end
section
namespace Go.Proofs.Ytanienlcebkijaa
open Go.Abs Go.Dat
set_option maxRecDepth 100000
set_option maxHeartbeats 4000000
end Go.Proofs.Ytanienlcebkijaa
end
section
namespace Go.Dat
open Go.Abs
end Go.Dat
namespace Go.Proofs.Ytanienlcebkijaa
open Go.Abs Go.Dat
set_option maxRecDepth 100000
set_option maxHeartbeats 4000000
end Go.Proofs.Ytanienlcebkijaa
end
section
namespace Go.Dat
open Go.Abs
end Go.Dat
namespace Go.Proofs.Ytanienlcebkijaa
open Go.Abs Go.Dat
set_option maxRecDepth 100000
set_option maxHeartbeats 8000000
end Go.Proofs.Ytanienlcebkijaa
end
