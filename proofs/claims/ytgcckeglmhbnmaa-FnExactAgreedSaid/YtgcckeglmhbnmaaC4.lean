/- Contracts: opinions. -/
import Derived.Test.YtgcckeglmhbnmaaC3
namespace Go.Dat
open Go.Abs
abbrev Opn := Int × ByteArray
def opRow (o : Opn) : List Value := [.int .i64 o.1, .string o.2]
def opV (o : Opn) : Value := .agg #[.int .i64 o.1, .string o.2]
def szOp (o : Opn) (left : Int) : Int := if left - o.2.size < 0 then -1 else left - o.2.size
def szOps : List Opn → Int → Int
  | [], left => left
  | o :: os, left => if szOp o left < 0 then -1 else szOps os (szOp o left)

/-- The rows of a copy that is under way. -/
def copyRows (os : List Opn) (n i : Nat) : List (List Value) := (os.take i).map opRow ++ List.replicate (n - i) [.int .i64 0, .string ⟨#[]⟩]

theorem copyRows_set {os : List Opn} {n i : Nat} (hi : i < os.length) (hn : os.length = n) : (copyRows os n i).set i (opRow os[i]) = copyRows os n (i + 1) := by
  unfold copyRows
  have e : n - i = (n - (i + 1)) + 1 := by omega
  rw [e, List.replicate_succ, List.take_succ_eq_append_getElem hi, List.map_append]
  have hl : ((os.take i).map opRow).length = i := by simp; omega
  rw [List.set_append_right _ _ (by omega), hl, Nat.sub_self, List.set_cons_zero]
  simp
theorem copyRows_all {os : List Opn} {n : Nat} (hn : os.length = n) : copyRows os n n = os.map opRow := by
  subst hn; unfold copyRows; simp
theorem copyRows_zero {os : List Opn} {n : Nat} : copyRows os n 0 = List.replicate n [.int .i64 0, .string ⟨#[]⟩] := by
  unfold copyRows; simp
theorem copyRows_get {os : List Opn} {n i : Nat} (hi : i < os.length) (hn : os.length = n) : (copyRows os n i)[i]? = some [.int .i64 0, .string ⟨#[]⟩] := by
  unfold copyRows
  have hl : ((os.take i).map opRow).length = i := by simp; omega
  rw [List.getElem?_append_right (by omega), hl, Nat.sub_self, List.getElem?_replicate, if_pos (by omega)]
end Go.Dat
namespace Go.Proofs.Ytgcckeglmhbnmaa
open Go.Abs Go.Dat
set_option maxRecDepth 100000

theorem opRow_ld {h : AHeap} {l r n c : Nat} {os : List Opn} (hr : h.rowsOf (.slice (some ⟨l, r, some 2⟩) n c) = some (os.map opRow)) {i : Nat} {o : Opn} (ho : os[i]? = some o) : h.ld l (r + i) 0 2 = some [.int .i64 o.1, .string o.2] :=
  rows_ld hr (by rw [List.getElem?_map, ho]; rfl) rfl

theorem push_put {h : AHeap} {o : AObj} {o' : AObj} : (h.push o).put h.n (some o') = h.push o' := by
  unfold AHeap.push AHeap.put
  congr 1
  funext x
  dsimp only
  split <;> rfl

end Go.Proofs.Ytgcckeglmhbnmaa
