/- C9, F1, F2, F3, F4, F5, F6, A30, A31, J1, H1, H2, S1, T1, P9, R1. -/
import Derived.Test.YtpgfjadjhliohaaGreatV19C3
import Derived.Test.YtpgfjadjhliohaaGreatV19G1
import Derived.Carry
section
namespace Go.Dat
open Go.Abs
open Classical in
noncomputable def tr (p : Prop) : Bool := decide p
theorem tr_true {p : Prop} (h : p) : true = tr p := by unfold tr; simp [h]
theorem tr_false {p : Prop} (h : ¬ p) : false = tr p := by unfold tr; simp [h]
theorem of_tr {p : Prop} (h : tr p = true) : p := by unfold tr at h; simpa using h
theorem of_trn {p : Prop} (h : tr p = false) : ¬ p := by unfold tr at h; simpa using h
end Go.Dat
namespace Go.Proofs.YtpgfjadjhliohaaGreat
open Go.Abs Go.Dat
set_option maxRecDepth 100000
set_option maxHeartbeats 4000000
end Go.Proofs.YtpgfjadjhliohaaGreat
end
section
namespace Go.Dat
open Go.Abs
end Go.Dat
namespace Go.Proofs.YtpgfjadjhliohaaGreat
open Go.Abs Go.Dat
set_option maxRecDepth 100000
set_option maxHeartbeats 4000000
end Go.Proofs.YtpgfjadjhliohaaGreat
end
section
namespace Go.Dat
open Go.Abs
end Go.Dat
namespace Go.Proofs.YtpgfjadjhliohaaGreat
open Go.Abs Go.Dat
set_option maxRecDepth 100000
set_option maxHeartbeats 4000000
end Go.Proofs.YtpgfjadjhliohaaGreat
end
section
namespace Go.Proofs.YtpgfjadjhliohaaGreat
open Go.Abs Go.Dat
set_option maxRecDepth 100000
set_option maxHeartbeats 4000000
end Go.Proofs.YtpgfjadjhliohaaGreat
end
section
namespace Go.Proofs.YtpgfjadjhliohaaGreat
open Go.Abs Go.Dat
set_option maxRecDepth 100000
set_option maxHeartbeats 4000000
end Go.Proofs.YtpgfjadjhliohaaGreat
end
section
namespace Go.Dat
open Go.Abs
end Go.Dat
namespace Go.Proofs.YtpgfjadjhliohaaGreat
open Go.Abs Go.Dat
set_option maxRecDepth 100000
set_option maxHeartbeats 4000000
end Go.Proofs.YtpgfjadjhliohaaGreat
end
section
namespace Go.Dat
open Go.Abs
end Go.Dat
namespace Go.Proofs.YtpgfjadjhliohaaGreat
open Go.Abs Go.Dat
set_option maxRecDepth 100000
set_option maxHeartbeats 4000000
end Go.Proofs.YtpgfjadjhliohaaGreat
end
section
namespace Go.Dat
open Go.Abs
theorem World.shape_lt {w : World} {b : Nat} {x : TypeId × Nat} (h : w.shape? b = some x) : b < w.heap.size := by
  rcases Nat.lt_or_ge b w.heap.size with hl | hl
  · exact hl
  · unfold World.shape? at h
    rw [Array.getElem?_eq_none hl] at h
    simp at h
theorem cell_pos {P : Program} {W : World} {base : Nat} {u : TypeId} {a : Addr} {n c : Nat} (h : Cell.okWide P W .any base u (.slice (some a) n c)) : 0 < W.heap.size := by
  have h2 : Cell.ok P W .any base u (.slice (some a) n c) := by
    unfold Cell.okWide at h
    split at h <;> first | exact h | (rename_i e; cases e)
  unfold Cell.ok at h2
  split at h2
  all_goals first
    | (rename_i e; cases e; done)
    | skip
  · rename_i e
    cases e
    obtain ⟨_, _, _, _, row, cells, hs, _⟩ := h2
    have := World.shape_lt hs
    omega
  · exact h2.elim
theorem arg_struct {H : Type} {enc : TypeId × Value → H} {P : Program} {W : World} {base m : Nat} {t : TypeId} {fs : Array Field} {s : Sh} {v : Value} {d : DataW H} {p : List MemPlace} {os : List InObj}
    (hu : P.underlying t = some (.struct fs)) (hs : shapes m P t s = true) (hv : Value.okWide P W .any base t v) (h0 : DataW.Trod enc P W 0 (fun _ => true) true t v d p) (hg : IGood W os) :
    ∃ (more : List InObj) (y : s.T) (acs : List Value), IGood W (os ++ more) ∧ s.rd (inHeap (os ++ more)) y acs ∧ VRel (inLay (os ++ more)) (.agg acs.toArray) v ∧ s.ok y := by
  unfold Value.okWide at hv
  rw [hu] at hv
  obtain ⟨cs, rfl, hlen, ts, hts, _, hcell⟩ := hv
  obtain ⟨fuel, h0⟩ := h0
  obtain ⟨more, y, acs, g1, r1, v1, k1⟩ := open_sh m t s hs fuel os _ _ hg (fun a n c hm => by
    obtain ⟨i, hi⟩ := List.mem_iff_getElem?.1 hm
    have hi2 : cs[i]? = some (.slice (some a) n c) := by rw [← Array.getElem?_toList]; exact hi
    obtain ⟨u, _, hc⟩ := hcell i _ hi2
    exact cell_pos hc) h0
  refine ⟨more, y, acs, g1, r1, .agg ?_ ?_, k1⟩
  · have := v1.len
    simpa [Value.cells] using this
  · intro i a b ha hb
    refine v1.rel i a b (by simpa using ha) ?_
    show cs.toList[i]? = some b
    rw [Array.getElem?_toList]; exact hb
theorem arel1 {L : Lay} {a A : Value} (h : VRel L a A) : ARel L #[a] #[A] := by
  refine ⟨rfl, fun i v V h1 h2 => ?_⟩
  match i, h1, h2 with
  | 0, h1, h2 => simp at h1 h2; subst h1; subst h2; exact h
  | i + 1, h1, h2 => simp at h1
end Go.Dat
end
section
namespace Go.Abs
theorem Rel.below {L : Lay} {F R : Nat → Prop} {w0 w w' : World} {h : AHeap} (r : Rel L F R w0 w h) (b : RowKit.Below w.heap.size w w') : Rel L F R w0 w' h := by
  have hlt : ∀ x, F x → x < w.heap.size := fun x hx => Nat.lt_of_lt_of_le (r.inF x hx) r.keeps.size
  refine ⟨⟨b.os.trans r.keeps.os, b.tape.trans r.keeps.tape, b.output.trans r.keeps.output, Nat.le_trans r.keeps.size b.size, fun x hx => (b.block x (hlt x hx)).trans (r.keeps.block x hx)⟩, r.inF, r.inR, r.fresh, r.unl, fun l o s h1 h2 => ?_, r.free, r.ro, r.apart⟩
  have ob := r.obj l o s h1 h2
  refine ⟨ob.esz, ob.rw, Nat.lt_of_lt_of_le ob.lt b.size, ob.len, fun k row hr j v hv => ?_, fun ho => ?_⟩
  · obtain ⟨V, hV, hvr⟩ := ob.cell k row hr j v hv
    exact ⟨V, by rw [b.cell (p := ⟨s.blk, s.base + k * s.esz + j, none⟩) ob.lt]; exact hV, hvr⟩
  · obtain ⟨cs, T, fr, e, h2, h3⟩ := ob.own ho
    exact ⟨cs, T, fr, by rw [b.block _ ob.lt]; exact e, h2, h3⟩
end Go.Abs
end
section
namespace Go.Dat
open Go.Abs
def cat : List ByteArray → ByteArray
  | [] => ⟨#[]⟩
  | x :: xs => x ++ cat xs
theorem ba_ext {a b : ByteArray} (h : a.data.toList = b.data.toList) : a = b := by
  cases a; cases b; congr 1; exact Array.ext' h
theorem ba_append_nil (a : ByteArray) : a ++ (⟨#[]⟩ : ByteArray) = a := ba_ext (by simp)
theorem ba_nil_append (a : ByteArray) : (⟨#[]⟩ : ByteArray) ++ a = a := ba_ext (by simp)
theorem ba_assoc (a b c : ByteArray) : a ++ b ++ c = a ++ (b ++ c) := ba_ext (by simp)
theorem cat_append : ∀ (xs ys : List ByteArray), cat (xs ++ ys) = cat xs ++ cat ys
  | [], ys => (ba_nil_append _).symm
  | x :: xs, ys => by show x ++ cat (xs ++ ys) = x ++ cat xs ++ cat ys; rw [cat_append xs ys, ba_assoc]
end Go.Dat
end
section
namespace Go.Dat
open Go.Abs
def foldN (n : Int) : Nat := if n < 0 then (2 * (-(n + 1)) + 1).toNat else (2 * n).toNat
def oneB (v : Nat) : ByteArray := ⟨#[UInt8.ofNat v]⟩
def vb (u : Nat) : ByteArray := if u < 128 then oneB u else oneB (u % 128 + 128) ++ vb (u / 128)
termination_by u
decreasing_by omega
end Go.Dat
namespace Go.Proofs.YtpgfjadjhliohaaGreat
open Go.Abs Go.Dat
set_option maxRecDepth 100000
set_option maxHeartbeats 4000000
end Go.Proofs.YtpgfjadjhliohaaGreat
end
section
namespace Go.Dat
open Go.Abs
end Go.Dat
namespace Go.Proofs.YtpgfjadjhliohaaGreat
open Go.Abs Go.Dat
set_option maxRecDepth 100000
set_option maxHeartbeats 4000000
end Go.Proofs.YtpgfjadjhliohaaGreat
end
section
namespace Go.Dat
open Go.Abs
def nb (n : Int) : ByteArray := vb (foldN n)
theorem cat_one (x : ByteArray) : cat [x] = x := ba_append_nil x
theorem cat_snoc (L : List ByteArray) (x : ByteArray) : cat L ++ x = cat (L ++ [x]) := by rw [cat_append, cat_one]
def InR (lo hi x : Int) : Prop := lo ≤ x ∧ x ≤ hi
theorem app2 (A : List ByteArray) (x y : ByteArray) : Append.append (cat A) (Append.append x y) = cat (A ++ [x, y]) := by
  show cat A ++ (x ++ y) = _
  rw [← ba_assoc, cat_snoc, cat_snoc, List.append_assoc]; rfl
end Go.Dat
namespace Go.Proofs.YtpgfjadjhliohaaGreat
open Go.Abs Go.Dat
set_option maxRecDepth 100000
set_option maxHeartbeats 8000000
abbrev Q4h := List (Sh.T Sh.int)
def Q3r := True ∧ True ∧ True
def Q3s (a : Int) := Value.int IntKind.i64 a
theorem sizeString_spec (h : AHeap) (a : Option Addr) (n c : Nat) : ACall Tryz.prog 149 [.slice a n c] h (.int .i64 n) h := by
  refine acall_out (acall_vc (fun _ => false) (fun _ => []) (fun _ => .none) mixed Tryz.func149 rfl rfl rfl (Nat.le_of_ble_eq_true rfl) (by (refine vc_mp (by kernel_rfl : (Q3r) = _) ?_; delta Q3r); simp only [and_self]) ?_)
  (refine vc_mp (by kernel_rfl : (Q3s (↑n : Int) = Q3s (↑n : Int) ∧ h = h) = _) ?_; delta Q3s)
  exact ⟨rfl, rfl⟩
end Go.Proofs.YtpgfjadjhliohaaGreat
end
section
namespace Go.Dat
open Go.Abs
def AscAt {α : Type} (k : α → Int) (P : α → Prop) (xs : List α) (i : Nat) : Prop := ∃ x, xs[i]? = some x ∧ P x ∧ ∀ j, i = j + 1 → ∃ y, xs[j]? = some y ∧ k y < k x
def Asc {α : Type} (k : α → Int) (P : α → Prop) (xs : List α) : Prop := ∀ i, i < xs.length → AscAt k P xs i
theorem AscAt.mk0 {α : Type} {k : α → Int} {P : α → Prop} {xs : List α} {i : Nat} {x : α} (e : xs[i]? = some x) (h1 : P x) (hi0 : i = 0) : AscAt k P xs i := ⟨x, e, h1, fun j hj => by omega⟩
theorem AscAt.mk1 {α : Type} {k : α → Int} {P : α → Prop} {xs : List α} {i : Nat} {x y : α} (e : xs[i]? = some x) (h1 : P x) (e2 : xs[i - 1]? = some y) (h2 : k y < k x) : AscAt k P xs i := ⟨x, e, h1, fun j hj => ⟨y, by rw [← e2]; congr 1; omega, h2⟩⟩
theorem AscAt.out {α : Type} {k : α → Int} {P : α → Prop} {xs : List α} {i : Nat} {x : α} (H : AscAt k P xs i) (e : xs[i]? = some x) : P x ∧ ∀ y, 0 < i → xs[i - 1]? = some y → k y < k x := by
  obtain ⟨x', e', h1, h2⟩ := H
  rw [e] at e'
  cases e'
  refine ⟨h1, fun y hp e2 => ?_⟩
  obtain ⟨y', e3, h4⟩ := h2 (i - 1) (by omega)
  rw [e2] at e3
  cases e3
  exact h4
theorem Asc.mem {α : Type} {k : α → Int} {P : α → Prop} {xs : List α} (H : Asc k P xs) {x : α} (hx : x ∈ xs) : P x := by
  obtain ⟨i, hi⟩ := List.mem_iff_getElem?.1 hx
  exact ((H i (List.getElem?_eq_some_iff.1 hi).1).out hi).1
theorem Asc.low {α : Type} {k : α → Int} {P : α → Prop} {xs : List α} (H : Asc k P xs) {lo : Int} (hP : ∀ x, P x → lo ≤ k x) : ∀ (i : Nat) (x : α), xs[i]? = some x → lo + i ≤ k x
  | 0, x, e => by have := hP x ((H 0 (List.getElem?_eq_some_iff.1 e).1).out e).1; omega
  | i + 1, x, e => by
    have hi := (List.getElem?_eq_some_iff.1 e).1
    obtain ⟨y, hy⟩ : ∃ y, xs[i]? = some y := ⟨_, List.getElem?_eq_getElem (by omega)⟩
    have h1 := Asc.low H hP i y hy
    have h2 := ((H (i + 1) hi).out e).2 y (by omega) hy
    omega
theorem Asc.len {α : Type} {k : α → Int} {P : α → Prop} {xs : List α} (H : Asc k P xs) {lo hi : Int} (hP : ∀ x, P x → InR lo hi (k x)) (hb : lo ≤ hi + 1) : (xs.length : Int) ≤ hi - lo + 1 := by
  cases hl : xs.length with
  | zero => omega
  | succ n =>
    obtain ⟨x, hx⟩ : ∃ x, xs[n]? = some x := ⟨_, List.getElem?_eq_getElem (by omega)⟩
    have h1 := H.low (fun x h => (hP x h).1) n x hx
    have h2 := (hP x (H.mem (List.mem_of_getElem? hx))).2
    omega
theorem Asc.nil {α : Type} {k : α → Int} {P : α → Prop} : Asc k P [] := fun _ hi => absurd hi (Nat.not_lt_zero _)
theorem Asc.one {α : Type} {k : α → Int} {P : α → Prop} {x : α} : Asc k P [x] ↔ P x := ⟨fun H => H.mem (List.mem_singleton.2 rfl), fun h i hi => by
  obtain rfl : i = 0 := by simp at hi; omega
  exact .mk0 rfl h rfl⟩
def QuoOk (l : List Sh.int.T) : Prop := Asc (fun x : Int => x) (InR 0 3) l ∧ 3 ≤ l.length
def PrfOk (v q : Int) (op : ByteArray) (l : List Sh.int.T) : Prop := InR 0 7 v ∧ InR 1 6 q ∧ op.size ≤ 120 ∧ QuoOk l
def ChgOk (f v : Int) (ps : List proofSh.T) : Prop := InR 0 3 f ∧ InR 1 7 v ∧ Asc (fun p : proofSh.T => p.2.1) (fun p : proofSh.T => PrfOk p.1 p.2.1 p.2.2.1 p.2.2.2 ∧ (show Int from p.1) < v) ps
def ChgsOk (v : Int) (cs : List changeSh.T) : Prop := Asc (fun c : changeSh.T => c.1) (fun c : changeSh.T => ChgOk c.1 c.2.1 c.2.2 ∧ (show Int from c.2.1) = v) cs
def SayOk (k f v q : Int) (op : ByteArray) (cs : List changeSh.T) : Prop := InR 0 3 f ∧ InR 0 7 v ∧ ChgsOk v cs ∧
  ((InR 1 3 k ∧ InR 1 6 q ∧ op.size ≤ 120 ∧ cs.length = 0 ∧ (k = 1 → f = v % 4)) ∨ (k = 4 ∧ 1 ≤ v ∧ q = 0 ∧ op.size = 0 ∧ cs.length = 1 ∧ ∀ c : changeSh.T, cs[0]? = some c → (show Int from c.1) = f) ∨ (k = 5 ∧ 1 ≤ v ∧ f = v % 4 ∧ q = 0 ∧ op.size = 0 ∧ 3 ≤ cs.length))
theorem QuoOk.len {l : List Sh.int.T} (H : QuoOk l) : l.length ≤ 4 := by
  have := H.1.len (lo := 0) (hi := 3) (fun x h => h) (by omega)
  omega
theorem ChgOk.len {f v : Int} {ps : List proofSh.T} (H : ChgOk f v ps) : ps.length ≤ 6 := by
  have := Asc.len H.2.2 (lo := 1) (hi := 6) (fun x h => h.1.2.1) (by omega)
  omega
theorem ChgsOk.len {v : Int} {cs : List changeSh.T} (H : ChgsOk v cs) : cs.length ≤ 4 := by
  have := Asc.len H (lo := 0) (hi := 3) (fun x h => h.1.1) (by omega)
  omega
theorem inT {lo hi n : Int} (h : (decide (lo ≤ n) && decide (n ≤ hi)) = true) : InR lo hi n := by simpa [InR] using h
theorem inF {lo hi n : Int} (h : (decide (lo ≤ n) && decide (n ≤ hi)) = false) : ¬ InR lo hi n := fun H => by
  obtain ⟨h1, h2⟩ := H
  simp [h1, h2] at h
theorem upto_step {P : Nat → Prop} {i : Nat} (hall : ∀ j, j < i → P j) (hc : P i) : ∀ j, j < i + 1 → P j := fun j hj => by
  rcases Nat.lt_succ_iff_lt_or_eq.1 hj with hj | rfl
  · exact hall j hj
  · exact hc
theorem wrap_pred {i : Nat} (h0 : 0 < i) (h : i ≤ 9223372036854775807) : IntKind.i64.wrap ((i : Int) - 1) = ((i - 1 : Nat) : Int) := by rw [wrap_i64 (by omega)]; omega
theorem quo_dec {l : List Sh.int.T} (hall : ∀ j, j < l.length → AscAt (fun x : Int => x) (InR 0 3) l j) : decide ((l.length : Int) ≥ 3) = tr (QuoOk l) := by
  by_cases h : 3 ≤ l.length
  · rw [← tr_true (p := QuoOk l) ⟨hall, h⟩]; simp; omega
  · rw [← tr_false (p := QuoOk l) (fun H => h H.2)]; simp; omega
theorem tr_congr {p q : Prop} (h : p ↔ q) : tr p = tr q := congrArg tr (propext h)
theorem tr_dec {p : Prop} [Decidable p] : decide p = tr p := by
  by_cases h : p
  · rw [← tr_true h]; simp [h]
  · rw [← tr_false h]; simp [h]
theorem inr_tr {lo hi n : Int} : (decide (lo ≤ n) && decide (n ≤ hi)) = tr (InR lo hi n) := by
  rw [← Bool.decide_and, tr_dec]; rfl
theorem sz_tr {b : Bool} {n : Nat} (h : b = decide ((n : Int) ≤ 120)) : b = tr (n ≤ 120) := by
  rw [h, tr_dec]; exact tr_congr (by omega)
theorem bs_b {b : Bool} {A B : Prop} (h1 : b = true → A) (h2 : b = false → B) : bs b A B := by
  cases b with
  | true => exact h1 rfl
  | false => exact h2 rfl
end Go.Dat
namespace Go.Proofs.YtpgfjadjhliohaaGreat
open Go.Abs Go.Dat
set_option maxRecDepth 100000
set_option maxHeartbeats 8000000
def quL (l : List Sh.int.T) (a : Option Addr) (c : Nat) (h : AHeap) (hd : Nat → List (Nat × Value)) : LSpec where
  ι := Nat
  κ := Unit
  I := fun i => i ≤ l.length ∧ ∀ j, j < i → AscAt (fun x : Int => x) (InR 0 3) l j
  μ := fun i => l.length - i
  head := fun i => ⟨(0, .slice a l.length c) :: hd i, [], h⟩
  post := fun _ => ⟨[(0, .slice a l.length c)], [], h⟩
  R := fun _ _ => ∀ j, j < l.length → AscAt (fun x : Int => x) (InR 0 3) l j
  ret := fun _ v h' => v = .bool false ∧ h' = h ∧ ∃ j, j < l.length ∧ ¬ AscAt (fun x : Int => x) (InR 0 3) l j
def Q3t (a b : Prop) := True ∧ a ∧ b ∧ True
def Q3u (a : List Int) (b : Nat) := AscAt (fun (x : Int) => x) (InR 0 3) a b
def Q3v (a : Nat) (b : Q4h) (c : List Int) := a < List.length b → Q3u c a
def Q3w (a : Option Addr) (b : Q4h) (c : Nat) := Value.slice a (List.length b) c
def Q3x (a : Option Addr) (b : Q4h) (c : Nat) := Q3w a b c = Q3w a b c
def Q3y (a : Option Addr) (b c : Nat) (d : Int) (e f : Prop) := a = some (Addr.mk b c (some 1)) ∧ 0 ≤ d ∧ e ∧ f
def Q3z (a : AHeap) (b c d : Nat) (e : List Value) (f : Prop) := AHeap.ld a b (c + d) 0 1 = some e ∧ f
def Q40 (a : Value) (b c : AHeap) (d : Prop) := a = Value.bool false ∧ b = c ∧ d
def Q41 (a : Value) (b c : AHeap) (d : Prop) := Q40 a b c d → Q40 a b c d
def Q42 (a : Nat) (b : Q4h) (c : List Int) := a < List.length b ∧ Not (Q3u c a)
def Q43 (a : Q4h) (b : Nat) := List.length a - b
def Q44 (a : Nat) (b : Q4h) (c : Prop) := a ≤ List.length b ∧ c
def Q45 (a b : Nat) (c : List Int) := a < b → Q3u c a
def Q46 (a : Int) := IntKind.wrap IntKind.i64 a
def Q47 (a : Int) (b : Nat) := Q3s (Q46 a) = Q3s (↑b : Int)
def Q48 (a b : AHeap) (c : Prop) := Value.bool false = Value.bool false ∧ a = b ∧ c
def Q49 (a : Nat) := (↑a : Int) - 1
def Q4a (a : Q4h) := (↑(List.length a) : Int)
def Q4b (a : FuncId) (b : List Value) (c : AHeap) (d : Bool) (e : AHeap) := ACall Tryz.prog a b c (Value.bool d) e
def Q4c (a : Bool) (b : Prop) := Value.bool a = Value.bool (tr b)
def Q4d := Q3s 0
theorem quorumRight_spec (h : AHeap) (l : List Sh.int.T) (a : Option Addr) (c : Nat) (h1 : Sl h Sh.int l (.slice a l.length c)) (ok : (Sh.sl Sh.int).ok l) :
    ACall Tryz.prog 165 [.slice a l.length c] h (.bool (tr (QuoOk l))) h := by
  have n1 : l.length ≤ 9223372036854775807 := ok.1
  refine acall_out (acall_vc (fun _ => false) (fun r => match r with | 4 => [(0, 0, []), (1, 0, []), (2, 0, []), (3, 1, []), (4, 3, []), (5, 0, []), (6, 0, []), (7, 0, []), (8, 0, []), (9, 0, []), (10, 0, []), (11, 0, []), (12, 0, []), (13, 0, []), (15, 0, []), (16, 0, []), (17, 0, []), (14, 1, []), (18, 1, []), (19, 0, []), (20, 0, []), (21, 0, [])] | _ => []) (fun _ => quL l a c h fun i => [(3, .int .i64 i)]) mixed Tryz.func165 rfl rfl rfl (Nat.le_of_ble_eq_true rfl) ?_ ?_)
  · (refine vc_mp (by kernel_rfl : (Q3t (True ∧ (∀ (i : Nat), Q44 i l (∀ (j : Nat), Q45 j i l) → bs (decide ((↑i : Int) < Q4a l)) (∃ (l_1 r : Nat), Q3y a l_1 r (↑i : Int) ((↑i : Int) < Q4a l) (∃ (x : Int), Q3z h l_1 r (Int.toNat (↑i : Int)) [Q3s x] (∃ (x_1 : Bool) (h' : AHeap), Q4b 76 [Q3s x] h x_1 h' ∧ bs (not x_1) (Q48 h' h (∃ (j : Nat), Q42 j l l)) (bs (decide ((↑i : Int) > 0)) (∃ (l_2 r : Nat), Q3y a l_2 r (Q46 (Q49 i)) (Q46 (Q49 i) < Q4a l) (∃ (l_3 r_1 : Nat), Q3y a l_3 r_1 (↑i : Int) ((↑i : Int) < Q4a l) (∃ (x : Int), Q3z h' l_2 r (Int.toNat (Q46 (Q49 i))) [Q3s x] (∃ (x_2 : Int), Q3z h' l_3 r_1 (Int.toNat (↑i : Int)) [Q3s x_2] (bs (decide (x ≥ x_2)) (Q48 h' h (∃ (j : Nat), Q42 j l l)) (∃ (j : Nat), Q3x a l c ∧ Q47 ((↑i : Int) + 1) j ∧ h = h' ∧ Q44 j l (∀ (j_1 : Nat), Q45 j_1 j l) ∧ Q43 l j < Q43 l i ∧ (∀ (k : Unit), (∀ (j : Nat), Q3v j l l) → (∀ (j : Nat), Q3v j l l)) ∧ (∀ (v : Value) (h_1 : AHeap), Q41 v h_1 h (∃ (j : Nat), Q42 j l l)))))))) (∃ (j : Nat), Q3x a l c ∧ Q47 ((↑i : Int) + 1) j ∧ h = h' ∧ Q44 j l (∀ (j_1 : Nat), Q45 j_1 j l) ∧ Q43 l j < Q43 l i ∧ (∀ (k : Unit), (∀ (j : Nat), Q3v j l l) → (∀ (j : Nat), Q3v j l l)) ∧ (∀ (v : Value) (h_1 : AHeap), Q41 v h_1 h (∃ (j : Nat), Q42 j l l))))))) (∃ (j : Unit), Q3x a l c ∧ h = h ∧ (∀ (j : Nat), Q3v j l l))) ∧ Q3r ∧ (True ∧ (True ∧ True) ∧ True) ∧ True) True) = _) ?_; delta Q3r Q3s Q3t Q3u Q3v Q3w Q3x Q3y Q3z Q40 Q41 Q42 Q43 Q44 Q45 Q46 Q47 Q48 Q49 Q4a Q4b)
    simp only [true_and, and_true]
    rintro (i : Nat) ⟨hi, hall⟩
    refine bs_d (fun hlt => ?_) (fun hge => ⟨(), fun j hj => hall j (by omega)⟩)
    have hio : i < l.length := by omega
    obtain ⟨x, hat⟩ : ∃ x : Int, l[i]? = some x := ⟨_, List.getElem?_eq_getElem hio⟩
    obtain ⟨lo, r, row, ha, _, hrd, hld⟩ := h1.elem hat
    obtain rfl := hrd
    refine ⟨lo, r, ha, Int.natCast_nonneg _, hlt, _, hld, _, _, l09Who_spec _ _, bs_nb (fun e => ⟨rfl, i, hio, fun H => inF e (H.out hat).1⟩) (fun e1 => bs_d (fun hpos => ?_) (fun hpos => ?_))⟩
    · rw [wrap_pred (i := i) (by omega) (by omega)]
      obtain ⟨y, hat2⟩ : ∃ y : Int, l[i - 1]? = some y := ⟨_, List.getElem?_eq_getElem (by omega)⟩
      obtain ⟨lo', r', row', ha', _, hrd', hld'⟩ := h1.elem hat2
      obtain rfl := hrd'
      refine ⟨lo', r', ha', Int.natCast_nonneg _, by omega, lo, r, ha, Int.natCast_nonneg _, hlt, _, hld', _, hld, bs_d (fun e => ⟨rfl, i, hio, fun H => ?_⟩) (fun e2 => ?_)⟩
      · have h2 : y < x := (H.out hat).2 y (by omega) hat2
        omega
      · exact ⟨i + 1, by rw [wrap_i64 (by omega)]; rfl, rfl, ⟨by omega, upto_step hall (.mk1 hat (inT e1) hat2 (by show y < x; omega))⟩, by omega, fun _ h => h, fun _ _ h => h⟩
    · exact ⟨i + 1, by rw [wrap_i64 (by omega)]; rfl, rfl, ⟨by omega, upto_step hall (.mk0 hat (inT e1) (by omega))⟩, by omega, fun _ h => h, fun _ _ h => h⟩
  (refine vc_mp (by kernel_rfl : (∃ (i : Nat), Q3x a l c ∧ Q4d = Q3s (↑i : Int) ∧ h = h ∧ Q44 i l (∀ (j : Nat), Q45 j i l) ∧ (∀ (j : Unit), (∀ (j : Nat), Q3v j l l) → Q4c (decide (Q4a l ≥ 3)) (QuoOk l) ∧ h = h) ∧ (∀ (v : Value) (h_1 : AHeap), Q40 v h_1 h (∃ (j : Nat), Q42 j l l) → v = Value.bool (tr (QuoOk l)) ∧ h_1 = h)) = _) ?_; delta Q3s Q3u Q3v Q3w Q3x Q40 Q42 Q44 Q45 Q4a Q4c Q4d)
  refine ⟨(0 : Nat), rfl, rfl, rfl, ⟨Nat.zero_le _, fun j hj => absurd hj (Nat.not_lt_zero _)⟩, fun _ hall => ⟨congrArg _ ?_, rfl⟩, fun v h1 ⟨e1, e2, j, hj, hn⟩ => ⟨e1.trans (congrArg _ (tr_false fun H => hn (H.1 j hj))), e2⟩⟩
  exact quo_dec hall
def Q4e (a : Option Addr) (b : Q4h) (c : Nat) (d e : Prop) := Q3x a b c ∧ Q3x a b c ∧ Q3s (Q4a b) = Q3s (Q4a b) ∧ d ∧ e
theorem isQuorum_spec (h : AHeap) (l : List Sh.int.T) (a : Option Addr) (c : Nat) (h1 : Sl h Sh.int l (.slice a l.length c)) (ok : (Sh.sl Sh.int).ok l) :
    ACall Tryz.prog 159 [.slice a l.length c] h (.bool (tr (QuoOk l))) h := by
  have n1 : l.length ≤ 9223372036854775807 := ok.1
  refine acall_out (acall_vc (fun _ => false) (fun _ => []) (fun _ => quL l a c h fun i => [(5, .slice a l.length c), (6, .int .i64 l.length), (7, .int .i64 i)]) mixed Tryz.func159 rfl rfl rfl (Nat.le_of_ble_eq_true rfl) ?_ ?_)
  · (refine vc_mp (by kernel_rfl : (Q3t (True ∧ (∀ (i : Nat), Q44 i l (∀ (j : Nat), Q45 j i l) → bs (decide ((↑i : Int) < Q4a l)) (∃ (l_1 r : Nat), Q3y a l_1 r (↑i : Int) ((↑i : Int) < Q4a l) (∃ (x : Int), Q3z h l_1 r (Int.toNat (↑i : Int)) [Q3s x] (∃ (x_1 : Bool) (h' : AHeap), Q4b 86 [Q3s x] h x_1 h' ∧ bs (not x_1) (Q48 h' h (∃ (j : Nat), Q42 j l l)) (bs (decide ((↑i : Int) > 0)) (∃ (l_2 r : Nat), Q3y a l_2 r (Q46 (Q49 i)) (Q46 (Q49 i) < Q4a l) (∃ (x_2 : Int), Q3z h' l_2 r (Int.toNat (Q46 (Q49 i))) [Q3s x_2] (bs (decide (x_2 ≥ x)) (Q48 h' h (∃ (j : Nat), Q42 j l l)) (∃ (j : Nat), Q4e a l c (Q47 ((↑i : Int) + 1) j) (h = h' ∧ Q44 j l (∀ (j_1 : Nat), Q45 j_1 j l) ∧ Q43 l j < Q43 l i ∧ (∀ (k : Unit), (∀ (j : Nat), Q3v j l l) → (∀ (j : Nat), Q3v j l l)) ∧ (∀ (v : Value) (h_1 : AHeap), Q41 v h_1 h (∃ (j : Nat), Q42 j l l))))))) (∃ (j : Nat), Q4e a l c (Q47 ((↑i : Int) + 1) j) (h = h' ∧ Q44 j l (∀ (j_1 : Nat), Q45 j_1 j l) ∧ Q43 l j < Q43 l i ∧ (∀ (k : Unit), (∀ (j : Nat), Q3v j l l) → (∀ (j : Nat), Q3v j l l)) ∧ (∀ (v : Value) (h_1 : AHeap), Q41 v h_1 h (∃ (j : Nat), Q42 j l l)))))))) (∃ (j : Unit), Q3x a l c ∧ h = h ∧ (∀ (j : Nat), Q3v j l l))) ∧ Q3t (True ∧ True) (Q3t True (True ∧ True))) True) = _) ?_; delta Q3s Q3t Q3u Q3v Q3w Q3x Q3y Q3z Q40 Q41 Q42 Q43 Q44 Q45 Q46 Q47 Q48 Q49 Q4a Q4b Q4e)
    simp only [true_and, and_true]
    rintro (i : Nat) ⟨hi, hall⟩
    refine bs_d (fun hlt => ?_) (fun hge => ⟨(), fun j hj => hall j (by omega)⟩)
    have hio : i < l.length := by omega
    obtain ⟨x, hat⟩ : ∃ x : Int, l[i]? = some x := ⟨_, List.getElem?_eq_getElem hio⟩
    obtain ⟨lo, r, row, ha, _, hrd, hld⟩ := h1.elem hat
    obtain rfl := hrd
    refine ⟨lo, r, ha, Int.natCast_nonneg _, hlt, _, hld, _, _, isReplica_spec _ _, bs_nb (fun e => ⟨rfl, i, hio, fun H => inF e (H.out hat).1⟩) (fun e1 => bs_d (fun hpos => ?_) (fun hpos => ?_))⟩
    · rw [wrap_pred (i := i) (by omega) (by omega)]
      obtain ⟨y, hat2⟩ : ∃ y : Int, l[i - 1]? = some y := ⟨_, List.getElem?_eq_getElem (by omega)⟩
      obtain ⟨lo', r', row', ha', _, hrd', hld'⟩ := h1.elem hat2
      obtain rfl := hrd'
      refine ⟨lo', r', ha', Int.natCast_nonneg _, by omega, _, hld', bs_d (fun e => ⟨rfl, i, hio, fun H => ?_⟩) (fun e2 => ?_)⟩
      · have h2 : y < x := (H.out hat).2 y (by omega) hat2
        omega
      · exact ⟨i + 1, by rw [wrap_i64 (by omega)]; rfl, rfl, ⟨by omega, upto_step hall (.mk1 hat (inT e1) hat2 (by show y < x; omega))⟩, by omega, fun _ h => h, fun _ _ h => h⟩
    · exact ⟨i + 1, by rw [wrap_i64 (by omega)]; rfl, rfl, ⟨by omega, upto_step hall (.mk0 hat (inT e1) (by omega))⟩, by omega, fun _ h => h, fun _ _ h => h⟩
  (refine vc_mp (by kernel_rfl : (∃ (i : Nat), Q4e a l c (Q4d = Q3s (↑i : Int)) (h = h ∧ Q44 i l (∀ (j : Nat), Q45 j i l) ∧ (∀ (j : Unit), (∀ (j : Nat), Q3v j l l) → Q4c (decide (Q4a l ≥ 3)) (QuoOk l) ∧ h = h) ∧ (∀ (v : Value) (h_1 : AHeap), Q40 v h_1 h (∃ (j : Nat), Q42 j l l) → v = Value.bool (tr (QuoOk l)) ∧ h_1 = h))) = _) ?_; delta Q3s Q3u Q3v Q3w Q3x Q40 Q42 Q44 Q45 Q4a Q4c Q4d Q4e)
  refine ⟨(0 : Nat), rfl, rfl, rfl, rfl, rfl, ⟨Nat.zero_le _, fun j hj => absurd hj (Nat.not_lt_zero _)⟩, fun _ hall => ⟨congrArg _ ?_, rfl⟩, fun v h1 ⟨e1, e2, j, hj, hn⟩ => ⟨e1.trans (congrArg _ (tr_false fun H => hn (H.1 j hj))), e2⟩⟩
  exact quo_dec hall
theorem l10View_spec (h : AHeap) (n : Int) : ACall Tryz.prog 77 [.int .i64 n] h (.bool (tr (InR 0 7 n))) h := by
  refine acall_out (acall_vc (fun _ => false) (fun _ => []) (fun _ => .none) mixed Tryz.func77 rfl rfl rfl (Nat.le_of_ble_eq_true rfl) (by (refine vc_mp (by kernel_rfl : (Q3r) = _) ?_; delta Q3r); simp only [and_self]) ?_)
  (refine vc_mp (by kernel_rfl : (∃ (x : Bool) (h' : AHeap), Q4b 78 [Q3s n, Q4d, Q3s 7] h x h' ∧ Q4c x (InR 0 7 n) ∧ h' = h) = _) ?_; delta Q3s Q4b Q4c Q4d)
  exact ⟨_, _, l03Is_spec _ _ _ _, congrArg _ inr_tr, rfl⟩
theorem l10Seq_spec (h : AHeap) (n : Int) : ACall Tryz.prog 117 [.int .i64 n] h (.bool (tr (InR 1 6 n))) h := by
  refine acall_out (acall_vc (fun _ => false) (fun _ => []) (fun _ => .none) mixed Tryz.func117 rfl rfl rfl (Nat.le_of_ble_eq_true rfl) (by (refine vc_mp (by kernel_rfl : (Q3r) = _) ?_; delta Q3r); simp only [and_self]) ?_)
  (refine vc_mp (by kernel_rfl : (∃ (x : Bool) (h' : AHeap), Q4b 78 [Q3s n, Q3s 1, Q3s 6] h x h' ∧ Q4c x (InR 1 6 n) ∧ h' = h) = _) ?_; delta Q3s Q4b Q4c)
  exact ⟨_, _, l03Is_spec _ _ _ _, congrArg _ inr_tr, rfl⟩
theorem isView_spec (h : AHeap) (n lo : Int) : ACall Tryz.prog 87 [.int .i64 n, .int .i64 lo] h (.bool (tr (InR lo 7 n))) h := by
  refine acall_out (acall_vc (fun _ => false) (fun _ => []) (fun _ => .none) mixed Tryz.func87 rfl rfl rfl (Nat.le_of_ble_eq_true rfl) (by (refine vc_mp (by kernel_rfl : (Q3r) = _) ?_; delta Q3r); simp only [and_self]) ?_)
  (refine vc_mp (by kernel_rfl : (∃ (x : Bool) (h' : AHeap), Q4b 88 [Q3s n, Q3s lo, Q3s 7] h x h' ∧ Q4c x (InR lo 7 n) ∧ h' = h) = _) ?_; delta Q3s Q4b Q4c)
  exact ⟨_, _, within_spec _ _ _ _, congrArg _ inr_tr, rfl⟩
theorem isSeq_spec (h : AHeap) (n : Int) : ACall Tryz.prog 123 [.int .i64 n] h (.bool (tr (InR 1 6 n))) h := by
  refine acall_out (acall_vc (fun _ => false) (fun _ => []) (fun _ => .none) mixed Tryz.func123 rfl rfl rfl (Nat.le_of_ble_eq_true rfl) (by (refine vc_mp (by kernel_rfl : (Q3r) = _) ?_; delta Q3r); simp only [and_self]) ?_)
  (refine vc_mp (by kernel_rfl : (∃ (x : Bool) (h' : AHeap), Q4b 88 [Q3s n, Q3s 1, Q3s 6] h x h' ∧ Q4c x (InR 1 6 n) ∧ h' = h) = _) ?_; delta Q3s Q4b Q4c)
  exact ⟨_, _, within_spec _ _ _ _, congrArg _ inr_tr, rfl⟩
theorem opRight_spec (h : AHeap) (t : ByteArray) : ACall Tryz.prog 50 [.string t] h (.bool (tr (t.size ≤ 120))) h := by
  refine acall_out (acall_vc (fun _ => false) (fun _ => []) (fun _ => .none) mixed Tryz.func50 rfl rfl rfl (Nat.le_of_ble_eq_true rfl) (by (refine vc_mp (by kernel_rfl : (Q3r) = _) ?_; delta Q3r); simp only [and_self]) ?_)
  (refine vc_mp (by kernel_rfl : (Q4c (decide ((↑(ByteArray.size t) : Int) ≤ 120)) (ByteArray.size t ≤ 120) ∧ h = h) = _) ?_; delta Q4c)
  exact ⟨congrArg _ (sz_tr rfl), rfl⟩
theorem isOp_spec (h : AHeap) (t : ByteArray) : ACall Tryz.prog 56 [.string t] h (.bool (tr (t.size ≤ 120))) h := by
  refine acall_out (acall_vc (fun _ => false) (fun _ => []) (fun _ => .none) mixed Tryz.func56 rfl rfl rfl (Nat.le_of_ble_eq_true rfl) (by (refine vc_mp (by kernel_rfl : (Q3r) = _) ?_; delta Q3r); simp only [and_self]) ?_)
  (refine vc_mp (by kernel_rfl : (Q4c (decide ((↑(ByteArray.size t) : Int) ≤ 120)) (ByteArray.size t ≤ 120) ∧ h = h) = _) ?_; delta Q4c)
  exact ⟨congrArg _ (sz_tr rfl), rfl⟩
def Q4f := (4 : Int)
theorem specLeader (h : AHeap) (n : Int) (hn : 0 ≤ n) : ACall Tryz.prog 33 [.int .i64 n] h (.int .i64 (n % 4)) h := by
  refine acall_out (acall_vc (fun _ => false) (fun _ => []) (fun _ => .none) mixed Tryz.func33 rfl rfl rfl (Nat.le_of_ble_eq_true rfl) (by (refine vc_mp (by kernel_rfl : (Q3t (True ∧ (True ∧ True) ∧ True) True) = _) ?_; delta Q3t); simp only [and_self]) ?_)
  (refine vc_mp (by kernel_rfl : (bs (decide (n < 0)) (Q4d = Q3s (n % Q4f) ∧ h = h) (Q4f ≠ 0 ∧ Q3s (Int.tmod n Q4f) = Q3s (n % Q4f) ∧ h = h)) = _) ?_; delta Q3s Q4d Q4f)
  exact bs_d (fun e => by omega) (fun _ => ⟨by decide, by rw [Int.tmod_eq_emod_of_nonneg hn], rfl⟩)
theorem leader_spec (h : AHeap) (n : Int) (hn : 0 ≤ n) : ACall Tryz.prog 96 [.int .i64 n] h (.int .i64 (n % 4)) h := by
  refine acall_out (acall_vc (fun _ => false) (fun _ => []) (fun _ => .none) mixed Tryz.func96 rfl rfl rfl (Nat.le_of_ble_eq_true rfl) (by (refine vc_mp (by kernel_rfl : (Q3t (True ∧ (True ∧ True) ∧ True) True) = _) ?_; delta Q3t); simp only [and_self]) ?_)
  (refine vc_mp (by kernel_rfl : (bs (decide (n < 0)) (Q4d = Q3s (n % Q4f) ∧ h = h) (Q4f ≠ 0 ∧ Q3s (Int.tmod n Q4f) = Q3s (n % Q4f) ∧ h = h)) = _) ?_; delta Q3s Q4d Q4f)
  exact bs_d (fun e => by omega) (fun _ => ⟨by decide, by rw [Int.tmod_eq_emod_of_nonneg hn], rfl⟩)
def Q4g (a : FuncId) (b : List Value) (c : AHeap) (d : Bool) (e : AHeap) (f : Prop) (g h : Int) (i : ByteArray) (j : Q4h) (k : AHeap) := Q4b a b c d e ∧ bs d f (Q4c false (PrfOk g h i j) ∧ e = k)
theorem proofRight_spec (h : AHeap) (v q : Int) (op : ByteArray) (l : List Sh.int.T) (a : Option Addr) (c : Nat) (h1 : Sl h Sh.int l (.slice a l.length c)) (ok : (Sh.sl Sh.int).ok l) :
    ACall Tryz.prog 153 [.agg #[.int .i64 v, .int .i64 q, .string op, .slice a l.length c]] h (.bool (tr (PrfOk v q op l))) h := by
  refine acall_out (acall_vc (fun _ => false) (fun _ => []) (fun _ => .none) mixed Tryz.func153 rfl rfl rfl (Nat.le_of_ble_eq_true rfl) (by (refine vc_mp (by kernel_rfl : (Q3r) = _) ?_; delta Q3r); simp only [and_self]) ?_)
  (refine vc_mp (by kernel_rfl : (∃ (x : Bool) (h' : AHeap), Q4g 77 [Q3s v] h x h' (∃ (x : Bool) (h'_1 : AHeap), Q4g 117 [Q3s q] h' x h'_1 (∃ (x : Bool) (h' : AHeap), Q4g 50 [Value.string op] h'_1 x h' (∃ (x : Bool) (h'_2 : AHeap), Q4b 165 [Q3w a l c] h' x h'_2 ∧ Q4c x (PrfOk v q op l) ∧ h'_2 = h) v q op l h) v q op l h) v q op l h) = _) ?_; delta Q3s Q3w Q4b Q4c Q4g)
  refine ⟨_, _, l10View_spec _ _, bs_b (fun e1 => ?_) (fun e => ⟨congrArg _ (tr_false fun H => of_trn e H.1), rfl⟩)⟩
  refine ⟨_, _, l10Seq_spec _ _, bs_b (fun e2 => ?_) (fun e => ⟨congrArg _ (tr_false fun H => of_trn e H.2.1), rfl⟩)⟩
  refine ⟨_, _, opRight_spec _ _, bs_b (fun e3 => ?_) (fun e => ⟨congrArg _ (tr_false fun H => of_trn e H.2.2.1), rfl⟩)⟩
  exact ⟨_, _, quorumRight_spec _ l a c h1 ok, congrArg _ (tr_congr ⟨fun H => ⟨of_tr e1, of_tr e2, of_tr e3, H⟩, fun H => H.2.2.2⟩), rfl⟩
theorem isProof_spec (h : AHeap) (v q : Int) (op : ByteArray) (l : List Sh.int.T) (a : Option Addr) (c : Nat) (h1 : Sl h Sh.int l (.slice a l.length c)) (ok : (Sh.sl Sh.int).ok l) :
    ACall Tryz.prog 135 [.agg #[.int .i64 v, .int .i64 q, .string op, .slice a l.length c]] h (.bool (tr (PrfOk v q op l))) h := by
  refine acall_out (acall_vc (fun _ => false) (fun _ => []) (fun _ => .none) mixed Tryz.func135 rfl rfl rfl (Nat.le_of_ble_eq_true rfl) (by (refine vc_mp (by kernel_rfl : (Q3r) = _) ?_; delta Q3r); simp only [and_self]) ?_)
  (refine vc_mp (by kernel_rfl : (∃ (x : Bool) (h' : AHeap), Q4g 87 [Q3s v, Q4d] h x h' (∃ (x : Bool) (h'_1 : AHeap), Q4g 123 [Q3s q] h' x h'_1 (∃ (x : Bool) (h' : AHeap), Q4g 56 [Value.string op] h'_1 x h' (∃ (x : Bool) (h'_2 : AHeap), Q4b 159 [Q3w a l c] h' x h'_2 ∧ Q4c x (PrfOk v q op l) ∧ h'_2 = h) v q op l h) v q op l h) v q op l h) = _) ?_; delta Q3s Q3w Q4b Q4c Q4d Q4g)
  refine ⟨_, _, isView_spec _ _ _, bs_b (fun e1 => ?_) (fun e => ⟨congrArg _ (tr_false fun H => of_trn e H.1), rfl⟩)⟩
  refine ⟨_, _, isSeq_spec _ _, bs_b (fun e2 => ?_) (fun e => ⟨congrArg _ (tr_false fun H => of_trn e H.2.1), rfl⟩)⟩
  refine ⟨_, _, isOp_spec _ _, bs_b (fun e3 => ?_) (fun e => ⟨congrArg _ (tr_false fun H => of_trn e H.2.2.1), rfl⟩)⟩
  exact ⟨_, _, isQuorum_spec _ l a c h1 ok, congrArg _ (tr_congr ⟨fun H => ⟨of_tr e1, of_tr e2, of_tr e3, H⟩, fun H => H.2.2.2⟩), rfl⟩
end Go.Proofs.YtpgfjadjhliohaaGreat
end
section
namespace Go.Dat
open Go.Abs
abbrev Prf := Int × Int × ByteArray × List Int
def stepB (q : Int) (b : Option (Int × ByteArray)) (p : Prf) : Option (Int × ByteArray) := match b with
  | none => if p.2.1 = q then some (p.1, p.2.2.1) else none
  | some x => if p.2.1 = q ∧ x.1 < p.1 then some (p.1, p.2.2.1) else some x
def bestB (q : Int) (ps : List Prf) : Option (Int × ByteArray) := ps.foldl (stepB q) none
def mostB (ps : List Prf) : Int := ps.foldl (fun m p => if m < p.2.1 then p.2.1 else m) 0
def prfs (cs : List changeSh.T) : List Prf := (show List (Int × Int × List Prf) from cs).flatMap fun c => c.2.2
def opB (b : Option (Int × ByteArray)) : ByteArray := match b with
  | none => ⟨#[]⟩
  | some x => x.2
def wantN (ps : List Prf) : Nat → List freshSh.T
  | 0 => []
  | n + 1 => wantN ps n ++ [((n : Int) + 1, opB (bestB ((n : Int) + 1) ps))]
def wantM (cs : List changeSh.T) : List freshSh.T := wantN (prfs cs) (mostB (prfs cs)).toNat
def PrfsOk (ps : List Prf) : Prop := ∀ p ∈ ps, 0 ≤ p.1 ∧ 1 ≤ p.2.1 ∧ p.2.1 ≤ 6 ∧ p.2.2.1.size ≤ 120
theorem bestB_snoc {q : Int} {ps : List Prf} {p : Prf} : bestB q (ps ++ [p]) = stepB q (bestB q ps) p := by unfold bestB; rw [List.foldl_append]; rfl
theorem mostB_snoc {ps : List Prf} {p : Prf} : mostB (ps ++ [p]) = if mostB ps < p.2.1 then p.2.1 else mostB ps := by unfold mostB; rw [List.foldl_append]; rfl
theorem prfs_snoc {cs : List changeSh.T} {c : Int × Int × List Prf} : prfs (List.append (α := Int × Int × List Prf) cs [c]) = prfs cs ++ c.2.2 := by
  show List.flatMap _ _ = _
  rw [List.append_eq, List.flatMap_append, List.flatMap_cons, List.flatMap_nil, List.append_nil]; rfl
theorem prfs_take {cs : List changeSh.T} {i : Nat} {f v : Int} {ps : List Prf} (h : cs[i]? = some (f, v, ps)) : prfs (cs.take (i + 1)) = prfs (cs.take i) ++ ps := by
  have hi := (List.getElem?_eq_some_iff.1 h).1
  rw [List.take_succ_eq_append_getElem hi, show cs[i] = (f, v, ps) from (List.getElem?_eq_some_iff.1 h).2]
  exact prfs_snoc (cs := cs.take i) (c := (f, v, ps))
theorem snoc_take {A ps : List Prf} {k : Nat} {p : Prf} (h : ps[k]? = some p) : A ++ ps.take (k + 1) = (A ++ ps.take k) ++ [p] := by
  have hk := (List.getElem?_eq_some_iff.1 h).1
  rw [List.take_succ_eq_append_getElem hk, (List.getElem?_eq_some_iff.1 h).2, List.append_assoc]
theorem prfs_at {cs : List changeSh.T} {i k : Nat} {f v : Int} {ps : List Prf} {p : Prf} (h : cs[i]? = some (f, v, ps)) (hk : ps[k]? = some p) : p ∈ prfs cs :=
  List.mem_flatMap.2 ⟨(f, v, ps), List.mem_of_getElem? h, List.mem_of_getElem? hk⟩
theorem list_snoc {α : Type} {P : List α → Prop} (h0 : P []) (h1 : ∀ l a, P l → P (l ++ [a])) (l : List α) : P l := by
  have key : ∀ r : List α, P r.reverse := fun r => by
    induction r with
    | nil => exact h0
    | cons a r ih => rw [List.reverse_cons]; exact h1 _ _ ih
  have := key l.reverse
  rwa [List.reverse_reverse] at this
theorem mostB_le {ps : List Prf} : (∀ p ∈ ps, 1 ≤ p.2.1 ∧ p.2.1 ≤ 6) → 0 ≤ mostB ps ∧ mostB ps ≤ 6 := by
  refine list_snoc (P := fun ps => (∀ p ∈ ps, 1 ≤ p.2.1 ∧ p.2.1 ≤ 6) → 0 ≤ mostB ps ∧ mostB ps ≤ 6) ?_ (fun ps p ih => ?_) ps
  · exact fun _ => ⟨by decide, by decide⟩
  · intro H
    have h1 := ih fun x hx => H x (List.mem_append_left _ hx)
    have h2 := H p (List.mem_append_right _ (List.mem_singleton.2 rfl))
    rw [mostB_snoc]
    split <;> omega
theorem PrfsOk.most {ps : List Prf} (H : PrfsOk ps) : 0 ≤ mostB ps ∧ mostB ps ≤ 6 := mostB_le fun p hp => ⟨(H p hp).2.1, (H p hp).2.2.1⟩
theorem bestB_in {ps : List Prf} {q : Int} : ∀ {x : Int × ByteArray}, bestB q ps = some x → ∃ p ∈ ps, p.2.1 = q ∧ p.1 = x.1 ∧ p.2.2.1 = x.2 := by
  refine list_snoc (P := fun ps => ∀ {x : Int × ByteArray}, bestB q ps = some x → ∃ p ∈ ps, p.2.1 = q ∧ p.1 = x.1 ∧ p.2.2.1 = x.2) ?_ (fun ps p ih => ?_) ps
  · intro x h; cases h
  · intro x h
    rw [bestB_snoc] at h
    have old : bestB q ps = some x → ∃ p_1 ∈ ps ++ [p], p_1.2.1 = q ∧ p_1.1 = x.1 ∧ p_1.2.2.1 = x.2 := fun e => (ih e).elim fun y hy => ⟨y, List.mem_append_left _ hy.1, hy.2⟩
    cases e : bestB q ps with
    | none =>
      rw [e] at h
      unfold stepB at h
      dsimp only at h
      split at h
      · cases h; exact ⟨p, List.mem_append_right _ (List.mem_singleton.2 rfl), by assumption, rfl, rfl⟩
      · cases h
    | some y =>
      rw [e] at h
      unfold stepB at h
      dsimp only at h
      split at h
      · rename_i hc
        cases h; exact ⟨p, List.mem_append_right _ (List.mem_singleton.2 rfl), hc.1, rfl, rfl⟩
      · rw [e] at old; exact old h
theorem wantN_len (ps : List Prf) : ∀ n, (wantN ps n).length = n
  | 0 => rfl
  | n + 1 => by rw [wantN, List.length_append, wantN_len ps n]; rfl
theorem wantN_at (ps : List Prf) : ∀ n i, i < n → (wantN ps n)[i]? = some ((i : Int) + 1, opB (bestB ((i : Int) + 1) ps))
  | 0, i, h => absurd h (Nat.not_lt_zero _)
  | n + 1, i, h => by
    rw [wantN]
    by_cases e : i = n
    · subst e
      rw [List.getElem?_append_right (by rw [wantN_len]; omega), wantN_len, Nat.sub_self]; rfl
    · rw [List.getElem?_append_left (by rw [wantN_len]; omega)]
      exact wantN_at ps n i (by omega)
theorem wantM_len {cs : List changeSh.T} (H : PrfsOk (prfs cs)) : (wantM cs).length ≤ 6 := by
  unfold wantM
  rw [wantN_len]
  have := H.most
  omega
theorem opB_size {ps : List Prf} (H : PrfsOk ps) {q : Int} : (opB (bestB q ps)).size ≤ 120 := by
  cases e : bestB q ps with
  | none => exact Nat.zero_le _
  | some x =>
    obtain ⟨p, hp, _, _, e2⟩ := bestB_in e
    show x.2.size ≤ 120
    rw [← e2]; exact (H p hp).2.2.2
theorem wantM_at {cs : List changeSh.T} (H : PrfsOk (prfs cs)) {i : Nat} {q : Int} {op : ByteArray} (h : (wantM cs)[i]? = some (q, op)) : q = (i : Int) + 1 ∧ InR 1 6 q ∧ op.size ≤ 120 := by
  have hi := (List.getElem?_eq_some_iff.1 h).1
  have hm := H.most
  unfold wantM at h hi
  rw [wantN_len] at hi
  rw [wantN_at _ _ _ hi] at h
  cases h
  exact ⟨rfl, ⟨by omega, by omega⟩, opB_size H⟩
theorem chgsOk_prfs {v : Int} {cs : List changeSh.T} (H : ChgsOk v cs) : PrfsOk (prfs cs) := by
  intro p hp
  obtain ⟨c, hc, hm⟩ := List.mem_flatMap.1 hp
  have h1 := (Asc.mem H hc).1
  have h2 := (Asc.mem h1.2.2 hm).1
  exact ⟨h2.1.1, h2.2.1.1, h2.2.1.2, h2.2.2.1⟩
end Go.Dat
end
section
namespace Go.Dat
open Go.Abs
def bN (t : ByteArray) (k : Nat) : Nat := (t.data.toList.getD k 0).toNat
def gn (t : ByteArray) (a i u : Nat) : Option (Nat × Nat) :=
  if t.size ≤ a + i then none
  else if i = 9 ∧ 1 < bN t (a + i) then none
  else if 127 < bN t (a + i) then gn t a (i + 1) (u + bN t (a + i) % 128 * 128 ^ i)
  else if bN t (a + i) = 0 ∧ 0 < i then none
  else some (u + bN t (a + i) * 128 ^ i, a + i + 1)
termination_by t.size - (a + i)
decreasing_by omega
end Go.Dat
namespace Go.Proofs.YtpgfjadjhliohaaGreat
open Go.Abs Go.Dat
set_option maxRecDepth 100000
set_option maxHeartbeats 8000000
end Go.Proofs.YtpgfjadjhliohaaGreat
end
