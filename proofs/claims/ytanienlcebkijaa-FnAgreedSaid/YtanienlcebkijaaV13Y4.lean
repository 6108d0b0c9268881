/- W1, W3, W4, U3, U4, U5, W6, Y2, N1, Y3, C8, Y4. -/
import Derived.Test.YtanienlcebkijaaV13W0
import Derived.Test.YtanienlcebkijaaV13R1
import Derived.Test.YtanienlcebkijaaV13C7
import Derived.Test.YtanienlcebkijaaV13L3
section
namespace Go.Dat
open Go.Abs
structure Cpy (s : Sh) (h0 h : AHeap) (xs : List s.T) (l c : Nat) (rows : List (List Value)) : Prop where
  le : h0.Le h
  wf : h.wf
  new : h0.n ≤ l
  get : h.get l = some ⟨rows, s.cells, true⟩
  len : rows.length = xs.length
  cap : c = 0 ∨ c = xs.length + 1
  rd : ∀ (i : Nat) (y : s.T) (row : List Value), xs[i]? = some y → rows[i]? = some row → s.rd h0 y row
structure OwI (s : Sh) (h0 : AHeap) (l : Nat) (xs : List s.T) (rows0 : List (List Value)) (i : Nat) (h : AHeap) (rows : List (List Value)) (idss : List (List Nat)) : Prop where
  hi : i ≤ xs.length
  wf0 : h0.wf
  wf : h.wf
  le : h0.Le h
  new : h0.n ≤ l
  get : h.get l = some ⟨rows, s.cells, true⟩
  len0 : rows0.length = xs.length
  len : rows.length = xs.length
  il : idss.length = i
  fr : Fresh h0.n h.n (l :: idss.flatten)
  rd0 : ∀ (j : Nat) (y : s.T) (row : List Value), xs[j]? = some y → rows0[j]? = some row → s.rd h0 y row
  done : ∀ (j : Nat) (y : s.T) (row : List Value) (js : List Nat), xs[j]? = some y → rows[j]? = some row → idss[j]? = some js → s.rn h y row js
  rest : ∀ j, i ≤ j → rows[j]? = rows0[j]?
theorem OwI.start {s : Sh} {h0 h : AHeap} {xs : List s.T} {l c : Nat} {rows : List (List Value)} (hw : h0.wf) (C : Cpy s h0 h xs l c rows) : OwI s h0 l xs rows 0 h rows [] :=
  ⟨Nat.zero_le _, hw, C.wf, C.le, C.new, C.get, C.len, C.len, rfl, ⟨by simp, fun z hz => by obtain rfl : z = l := (by simpa using hz); exact ⟨C.new, C.wf.lt C.get⟩⟩, C.rd, fun j y row js _ _ h => (by cases h), fun _ _ => rfl⟩
theorem fresh_add {a b c l : Nat} {i j : List Nat} (x : Fresh a b (l :: i)) (y : Fresh b c j) (hbc : b ≤ c) (hab : a ≤ b) : Fresh a c (l :: (i ++ j)) := x.append hab hbc y
theorem OwI.step {s : Sh} {h0 : AHeap} {l : Nat} {xs : List s.T} {rows0 : List (List Value)} {i : Nat} {h h1 : AHeap} {rows : List (List Value)} {idss : List (List Nat)} {y : s.T} {cs : List Value} {js : List Nat}
    (I : OwI s h0 l xs rows0 i h rows idss) (hy : xs[i]? = some y) (le : h.Le h1) (wf : h1.wf) (rn : s.rn h1 y cs js) (fj : Fresh h.n h1.n js) :
    OwI s h0 l xs rows0 (i + 1) (h1.put l (some ⟨rows.set i cs, s.cells, true⟩)) (rows.set i cs) (idss ++ [js]) := by
  have hil : i < xs.length := (List.getElem?_eq_some_iff.1 hy).1
  have hg := le.get _ _ I.get
  have hll := I.wf.lt I.get
  have ndl := List.nodup_cons.1 I.fr.nd
  have keep : ∀ z o, z ≠ l → h1.get z = some o → (h1.put l (some ⟨rows.set i cs, s.cells, true⟩)).get z = some o := fun z o hz ho => by rw [AHeap.get_put_ne hz]; exact ho
  have lenI := I.len
  have ilI := I.il
  refine ⟨hil, I.wf0, wf.put (wf.lt hg) _, (I.le.trans le).put (I.wf0 l I.new) _, I.new, AHeap.get_put_eq, I.len0, by rw [List.length_set]; exact I.len, by rw [List.length_append, I.il]; rfl, ?_, I.rd0, ?_, fun j hj => ?_⟩
  · rw [List.flatten_append, List.flatten_singleton]
    exact fresh_add I.fr fj le.n (by have := I.new; omega)
  · intro j z row q h1' h2 h3
    rcases getElem?_snoc h3 with ⟨hj, h3⟩ | ⟨hj, rfl⟩
    · rw [List.getElem?_set, if_neg (by omega)] at h2
      exact ((I.done j z row q h1' h2 h3).le le).keep (fun w hw' o => keep w o (fun e => ndl.1 (List.mem_flatten.2 ⟨q, List.mem_of_getElem? h3, e ▸ hw'⟩)))
    · rw [I.il] at hj
      subst hj
      rw [List.getElem?_set, if_pos rfl, if_pos (by omega)] at h2
      cases h2
      rw [hy] at h1'; cases h1'
      exact rn.keep (fun w hw' o => keep w o (fun e => by have := fj.bd w hw'; omega))
  · rw [List.getElem?_set, if_neg (by omega)]
    exact I.rest j (by omega)
theorem OwI.row {s : Sh} {h0 : AHeap} {l : Nat} {xs : List s.T} {rows0 : List (List Value)} {i : Nat} {h : AHeap} {rows : List (List Value)} {idss : List (List Nat)} {y : s.T}
    (I : OwI s h0 l xs rows0 i h rows idss) (hy : xs[i]? = some y) : ∃ row, rows[i]? = some row ∧ s.rd h0 y row ∧ h.ld l i 0 s.cells = some row := by
  have hil : i < xs.length := (List.getElem?_eq_some_iff.1 hy).1
  have hr : rows[i]? = some (rows[i]'(by rw [I.len]; exact hil)) := List.getElem?_eq_getElem _
  have rd := I.rd0 i y _ hy (by rw [← I.rest i (Nat.le_refl _)]; exact hr)
  refine ⟨_, hr, rd, ?_⟩
  have hc := Sh.rd_len rd
  unfold AHeap.ld
  rw [I.get]
  dsimp only
  rw [hr]
  dsimp only
  rw [decide_eq_true (by omega), cond_true, List.drop_zero, List.take_of_length_le (by omega)]
theorem OwI.sn {s : Sh} {h0 : AHeap} {l : Nat} {xs : List s.T} {rows0 : List (List Value)} {h : AHeap} {rows : List (List Value)} {idss : List (List Nat)} {c : Nat}
    (I : OwI s h0 l xs rows0 xs.length h rows idss) : Sn h s xs (.slice (some ⟨l, 0, some s.cells⟩) xs.length c) (l :: idss.flatten) :=
  ⟨_, _, c, rfl, rfl, .inr ⟨l, 0, rows, idss, rfl, I.get, by rw [I.len]; omega, I.il, rfl, fun i x row js h1 h2 h3 => I.done i x row js h1 (by rw [Nat.zero_add] at h2; exact h2) h3⟩⟩
end Go.Dat
end
section
namespace Go.Dat
open Go.Abs
structure CmpI (xs : List ByteArray) (k0 k2 k : Nat) (ys : List ByteArray) : Prop where
  len : ys.length = xs.length
  h0 : k0 ≤ k
  hk : k + 1 ≤ k0 + k2
  h2 : 1 ≤ k2
  hn : k0 + k2 ≤ xs.length
  same : ∀ p, k0 + k2 ≤ p + 1 → ys[p]? = xs[p]?
  mem : ∀ t, t ∈ ys.take k ↔ t ∈ xs.take (k0 + k2)
theorem take_succ_mem {α : Type} {xs : List α} {n : Nat} {x t : α} (h : xs[n]? = some x) : t ∈ xs.take (n + 1) ↔ t ∈ xs.take n ∨ t = x := by
  have hl := (List.getElem?_eq_some_iff.1 h).1
  have hx : xs[n] = x := by rw [List.getElem?_eq_getElem hl] at h; cases h; rfl
  rw [List.take_succ_eq_append_getElem hl, List.mem_append, List.mem_singleton, hx]
theorem mem_take_get {α : Type} {xs : List α} {n m : Nat} {x : α} (h : xs[n]? = some x) (hm : n < m) : x ∈ xs.take m := List.mem_of_getElem? (show (xs.take m)[n]? = some x by rw [List.getElem?_take, if_pos hm]; exact h)
theorem CmpI.start {xs : List ByteArray} {k0 : Nat} {x : ByteArray} (h1 : 1 ≤ k0) (ha : xs[k0 - 1]? = some x) (hb : xs[k0]? = some x) : CmpI xs k0 1 k0 xs := by
  have hl := (List.getElem?_eq_some_iff.1 hb).1
  refine ⟨rfl, Nat.le_refl _, Nat.le_refl _, Nat.le_refl _, by omega, fun _ _ => rfl, fun t => ?_⟩
  rw [take_succ_mem hb]
  exact ⟨.inl, fun h => h.elim id fun e => by rw [e]; exact mem_take_get ha (by omega)⟩
theorem CmpI.step {xs ys : List ByteArray} {k0 k2 k : Nat} {x : ByteArray} (I : CmpI xs k0 k2 k ys) (hb : xs[k0 + k2]? = some x) : CmpI xs k0 (k2 + 1) (k + 1) (ys.set k x) := by
  have hl := (List.getElem?_eq_some_iff.1 hb).1
  have h2 := I.h2
  have hk := I.hk
  have h0 := I.h0
  have hlen := I.len
  refine ⟨by rw [List.length_set]; exact I.len, by omega, by omega, by omega, by omega, fun p hp => ?_, fun t => ?_⟩
  · rw [List.getElem?_set, if_neg (by omega)]
    exact I.same p (by omega)
  · have hs : (ys.set k x)[k]? = some x := by rw [List.getElem?_set, if_pos rfl, if_pos (by omega)]
    rw [show k0 + (k2 + 1) = k0 + k2 + 1 by omega, take_succ_mem hb, take_succ_mem hs, ← I.mem, List.take_set_of_le (Nat.le_refl _)]
end Go.Dat
end
section
namespace Go.Dat
open Go.Abs
end Go.Dat
end
section
namespace Go.Dat
open Go.Abs
def ChAt (xs : List changeSh.T) (f v : Int) (i : Nat) : Prop := ∃ x : changeSh.T, xs[i]? = some x ∧ (show Int from x.1) = f ∧ (show Int from x.2.1) = v
def CgAt (xs : List changeSh.T) (i : Nat) : Prop := ∃ x : changeSh.T, xs[i]? = some x ∧ ChgOk x.1 x.2.1 x.2.2 ∧ ∀ j, j < i → ¬ ChAt xs x.1 x.2.1 j
theorem CgAt.out {xs : List changeSh.T} {i : Nat} {f v : Int} {p : List proofSh.T} (H : CgAt xs i) (e : xs[i]? = some (f, v, p)) : ChgOk f v p ∧ ∀ j, j < i → ¬ ChAt xs f v j := by
  obtain ⟨x, e', h1, h2⟩ := H
  rw [e] at e'
  cases e'
  exact ⟨h1, h2⟩
theorem ChAt.pre {xs : List changeSh.T} {f v : Int} {i j : Nat} (hj : j < i) : ChAt (xs.take i) f v j ↔ ChAt xs f v j := by
  unfold ChAt
  rw [List.getElem?_take, if_pos hj]
theorem IdxRes.none {P : Nat → Prop} {n : Nat} {r : Int} (H : IdxRes P n r) : r < 0 ↔ ∀ j, j < n → ¬ P j := by
  rcases H with ⟨rfl, h⟩ | ⟨m, hm, rfl, h1, h2⟩
  · exact ⟨fun _ => h, fun _ => by decide⟩
  · exact ⟨fun hlt => by omega, fun H => absurd h1 (H m hm)⟩
end Go.Dat
namespace Go.Proofs.Ytanienlcebkijaa
open Go.Abs Go.Dat
set_option maxRecDepth 100000
set_option maxHeartbeats 8000000
end Go.Proofs.Ytanienlcebkijaa
end
section
namespace Go.Dat
open Go.Abs
end Go.Dat
namespace Go.Proofs.Ytanienlcebkijaa
open Go.Abs Go.Dat
set_option maxRecDepth 100000
set_option maxHeartbeats 8000000
end Go.Proofs.Ytanienlcebkijaa
end
section
namespace Go.Proofs.Ytanienlcebkijaa
open Go.Abs Go.Dat
set_option maxRecDepth 100000
set_option maxHeartbeats 8000000
end Go.Proofs.Ytanienlcebkijaa
end
section
namespace Go.Dat
open Go.Abs
structure OX (α : Type) where
  a : Option Addr
  c : Nat
  xs : List α
  ids : List Nat
  g : AHeap
def OXok (s : Sh) (h : AHeap) (o : OX s.T) : Prop := SoB s h o.g o.a o.xs.length o.c o.xs o.ids
theorem OXok.nil {s : Sh} {h : AHeap} (hw : h.wf) : OXok s h ⟨none, 0, [], [], h⟩ := SoB.nil hw
theorem OXok.grow {s : Sh} {h : AHeap} {o : OX s.T} (B : OXok s h o) {g' : AHeap} (le : o.g.Le g') (wf : g'.wf) : OXok s h ⟨o.a, o.c, o.xs, o.ids, g'⟩ := SoB.grow B le wf
theorem OXok.app {s : Sh} {h : AHeap} {o : OX s.T} (B : OXok s h o) {x : s.T} {cs : List Value} {js : List Nat} (rn : s.rn o.g x cs js) (fj : Fresh h.n o.g.n js) (d : ∀ z ∈ o.ids, z ∉ js) :
    ∃ o' : OX s.T, (o.g.push ⟨[cs], s.cells, true⟩).app (.slice o.a o.xs.length o.c) [cs] s.cells = some (.slice o'.a o'.xs.length o'.c, o'.g) ∧ OXok s h o' ∧ o'.xs = o.xs ++ [x] ∧ o.g.n ≤ o'.g.n ∧ (∀ z w, z ∉ o.ids → o.g.get z = some w → o'.g.get z = some w) ∧ ∀ z ∈ o'.ids, z = o.g.n + 1 ∨ z ∈ o.ids ∨ z ∈ js := by
  have lp := AHeap.Le.push B.wf ⟨[cs], s.cells, true⟩
  obtain ⟨l, h', ids', e, B', hn, hi, hk⟩ := (SoB.grow B lp (B.wf.push _)).app (rn.le lp) (fj.widen (Nat.le_refl _) lp.n) d
  have el : (o.xs ++ [x]).length = o.xs.length + 1 := by simp
  refine ⟨⟨some ⟨l, 0, some s.cells⟩, 0, o.xs ++ [x], ids', h'⟩, by dsimp only; rw [el]; exact e, ?_, rfl, Nat.le_trans lp.n hn, fun z w hz hw => hk z w hz (lp.get z w hw), fun z hz => hi z hz⟩
  show SoB s h h' (some ⟨l, 0, some s.cells⟩) (o.xs ++ [x]).length 0 (o.xs ++ [x]) ids'
  rw [el]; exact B'
theorem OXok.sn {s : Sh} {h : AHeap} {o : OX s.T} (B : OXok s h o) : Sn o.g s o.xs (.slice o.a o.xs.length o.c) o.ids := SoB.sn B
end Go.Dat
namespace Go.Proofs.Ytanienlcebkijaa
open Go.Abs Go.Dat
set_option maxRecDepth 100000
set_option maxHeartbeats 8000000
end Go.Proofs.Ytanienlcebkijaa
end
section
namespace Go.Proofs.Ytanienlcebkijaa
open Go.Abs Go.Dat
structure DL (s : Sh) (h : AHeap) (l : Nat) (o : OX s.T) : Prop where
  B : SoB s (E0 h.n) o.g o.a o.xs.length o.c o.xs o.ids
  out : Dr l h o.g
theorem DL.nl {s : Sh} {h : AHeap} {l : Nat} {o : OX s.T} (D : DL s h l o) : l ∉ o.ids := fun e => by
  have h1 : h.n ≤ l := (D.B.fr.bd l e).1
  have := D.out.s0.lt
  omega
theorem DL.dr {s : Sh} {h : AHeap} {l : Nat} {o : OX s.T} (D : DL s h l o) {g : AHeap} (d : Dr l o.g g) : DL s h l ⟨o.a, o.c, o.xs, o.ids, g⟩ :=
  ⟨d.sob D.B D.nl, D.out.trans d⟩
theorem DL.sn {s : Sh} {h : AHeap} {l : Nat} {o : OX s.T} (D : DL s h l o) : Sn o.g s o.xs (.slice o.a o.xs.length o.c) o.ids := D.B.sn
theorem DL.nil {s : Sh} {h : AHeap} {l : Nat} (z : Srz h l) : DL s h l ⟨none, 0, [], [], h⟩ := ⟨.new z.wf (Nat.le_refl _), .refl z⟩
theorem DL.lit {s : Sh} {h : AHeap} {l : Nat} (z : Srz h l) : DL s h l ⟨some ⟨h.n, 0, some s.cells⟩, 1, [], [h.n], h.push ⟨[], s.cells, true⟩⟩ := by
  have lp := AHeap.Le.push z.wf ⟨[], s.cells, true⟩
  have wp := z.wf.push ⟨[], s.cells, true⟩
  refine ⟨⟨E0.le lp.n, wp, E0.wf, rfl, ?_, .inr ⟨h.n, [], [], rfl, AHeap.get_push_eq, rfl, rfl, rfl, .inr rfl, fun i x row js h1 => by cases h1⟩⟩, .of z lp wp⟩
  exact Fresh.one (show h.n < h.n + 1 by omega)
theorem DL.app {s : Sh} {h : AHeap} {l : Nat} {o : OX s.T} (D : DL s h l o) {x : s.T} {cs : List Value} {js : List Nat} (rn : s.rn o.g x cs js) (fj : Fresh h.n o.g.n js) (d : ∀ z ∈ o.ids, z ∉ js) :
    ∃ (lo : Nat) (o' : OX s.T), (o.g.push ⟨[cs], s.cells, true⟩).app (.slice o.a o.xs.length o.c) [cs] s.cells = some (.slice (some ⟨lo, 0, some s.cells⟩) (o.xs.length + 1) o'.c, o'.g) ∧ o'.a = some ⟨lo, 0, some s.cells⟩ ∧ DL s h l o' ∧ o'.xs = o.xs ++ [x] ∧ ∀ z ∈ o'.ids, z = o.g.n + 1 ∨ z ∈ o.ids ∨ z ∈ js := by
  have lp := AHeap.Le.push D.out.wf ⟨[cs], s.cells, true⟩
  have wp := D.out.wf.push ⟨[cs], s.cells, true⟩
  obtain ⟨lo, h', ids', e, B', k, wf', hi⟩ := (SoB.grow D.B lp wp).app' (rn.le lp) (fj.widen (Nat.le_refl _) lp.n) d
  refine ⟨lo, ⟨some ⟨lo, 0, some s.cells⟩, 0, o.xs ++ [x], ids', h'⟩, e, rfl, ⟨?_, (D.out.le lp wp).step k wf' (fun z hz => (D.B.fr.bd z hz).1)⟩, rfl, fun z hz => hi z hz⟩
  have el : (o.xs ++ [x]).length = o.xs.length + 1 := by simp
  show SoB s (E0 h.n) h' (some ⟨lo, 0, some s.cells⟩) (o.xs ++ [x]).length 0 (o.xs ++ [x]) ids'
  rw [el]; exact B'
end Go.Proofs.Ytanienlcebkijaa
end
section
namespace Go.Dat
open Go.Abs
theorem rn_opinion {h : AHeap} {x : opinionSh.T} {cs : List Value} {ids : List Nat} : opinionSh.rn h x cs ids ↔ cs = [.int .i64 x.1, .string x.2] ∧ ids = [] ++ ([]) := by
  constructor
  · rintro ⟨_, _, _, _, rfl, rfl, ⟨rfl, rfl⟩, rfl, rfl⟩
    exact ⟨rfl, rfl⟩
  · rintro ⟨rfl, rfl⟩
    exact ⟨[_], _, [], _, rfl, rfl, ⟨rfl, rfl⟩, rfl, rfl⟩
end Go.Dat
namespace Go.Proofs.Ytanienlcebkijaa
open Go.Abs Go.Dat
set_option maxRecDepth 100000
set_option maxHeartbeats 4000000
end Go.Proofs.Ytanienlcebkijaa
end
section
namespace Go.Proofs.Ytanienlcebkijaa
open Go.Abs Go.Dat
set_option maxRecDepth 100000
set_option maxHeartbeats 8000000
theorem sl_strs {h : AHeap} (xs : List ByteArray) (n c : Nat) (hn : xs.length = n) : Sl (h.push ⟨xs.map (fun t => [Value.string t]), 1, true⟩) Sh.str xs (.slice (some ⟨h.n, 0, some 1⟩) n c) := by
  refine ⟨_, _, _, xs.map (fun t => [Value.string t]), rfl, .inr ⟨h.n, 0, rfl⟩, ?_, hn, fun i x row h1 h2 => ?_⟩
  · show (h.push _).rowsOf (.slice (some ⟨h.n, 0, some 1⟩) n c) = _
    rw [get_rowsOf AHeap.get_push_eq (by simp; omega), List.drop_zero, List.take_of_length_le (by simp; omega)]
  · rw [List.getElem?_map, h1] at h2
    exact (Option.some.inj h2).symm
theorem zeros_rows {h : AHeap} {n c : Nat} : (h.push ⟨List.replicate n [Value.int .u8 (Int.ofNat 0)], 1, true⟩).rowsOf (.slice (some ⟨h.n, 0, some 1⟩) n c) = some (bytesRows ⟨Array.replicate n 0⟩) := by
  rw [get_rowsOf AHeap.get_push_eq (by simp), List.drop_zero, List.take_of_length_le (by simp)]
  unfold bytesRows; simp
def AtL {α : Type} (o : OX α) (z : Nat) : Prop := ∃ lo, o.a = some ⟨lo, 0, some z⟩
def daL (h : AHeap) (l : Nat) : LSpec where
  ι := Nat × OX opinionSh.T
  κ := OX opinionSh.T
  I := fun i => i.1 ≤ 4 ∧ DL opinionSh h l i.2 ∧ AtL i.2 2 ∧ i.2.xs.length ≤ i.1
  μ := fun i => 4 - i.1
  head := fun i => ⟨[(3, .pointer (some ⟨l, 0, some 0⟩)), (4, .slice i.2.a i.2.xs.length i.2.c), (5, .int .i64 i.1)], [], i.2.g⟩
  post := fun o => ⟨[(3, .pointer (some ⟨l, 0, some 0⟩)), (4, .slice o.a o.xs.length o.c)], [], o.g⟩
  R := fun _ o => DL opinionSh h l o ∧ AtL o 2 ∧ o.xs.length ≤ 4
  ret := fun _ _ _ => False
theorem drawAgreed_spec (h : AHeap) (hw : h.wf) (a : Option Addr) (n c : Nat) (bytes : List Sh.byte.T) (hx : Sl h Sh.byte bytes (.slice a n c)) (ok : (Sh.sl Sh.byte).ok bytes) :
    ∃ v h', ACall Try.prog 9 [.slice a n c] h v h' ∧ h.Le h' ∧ h'.wf ∧ ∃ lo m c2 os, v = .slice (some ⟨lo, 0, some 2⟩) m c2 ∧ Sl h' opinionSh os (.slice (some ⟨lo, 0, some 2⟩) m c2) ∧ m ≤ 5 := by
  obtain ⟨h1, A1, le1, w1, z1⟩ := dr_new h hw a n c bytes hx ok
  refine acall_q fun Q HQ => ?_
  refine acall_vc (fun _ => false) (fun _ => []) (fun _ => daL h1 h.n) mixed Try.func9 rfl rfl rfl (Nat.le_of_ble_eq_true rfl) ?_ ?_
  · refine vc_mp (by kernel_rfl : (True ∧ True ∧ True ∧ (True ∧ (∀ (i : Nat × OX (Sh.T opinionSh)), Prod.fst i ≤ (4 : Nat) ∧ DL opinionSh h1 (AHeap.n h) (Prod.snd i) ∧ (∃ (lo : Nat), OX.a (Prod.snd i) = some (Addr.mk lo (0 : Nat) (some (2 : Nat)))) ∧ List.length (OX.xs (Prod.snd i)) ≤ Prod.fst i → bs (decide ((↑(Prod.fst i) : Int) < (4 : Int))) (∃ (x : Bool), ∃ (h' : AHeap), ACall Try.prog (66 : Nat) [Value.pointer (some (Addr.mk (AHeap.n h) (0 : Nat) (some (0 : Nat)))), Value.int IntKind.i64 (5 : Int)] (OX.g (Prod.snd i)) (Value.bool x) h' ∧ bs (!x) (∃ (x : ByteArray), ∃ (h'_1 : AHeap), ACall Try.prog (68 : Nat) [Value.pointer (some (Addr.mk (AHeap.n h) (0 : Nat) (some (0 : Nat)))), Value.slice (some (Addr.mk (AHeap.n h') (0 : Nat) (some (1 : Nat)))) (3 : Nat) (4 : Nat)] (AHeap.push h' (AObj.mk [[Value.string (ByteArray.mk (Array.mk [(97 : UInt8)]))], [Value.string (ByteArray.mk (Array.mk [(98 : UInt8)]))], [Value.string (ByteArray.mk (Array.mk [(99 : UInt8)]))]] (1 : Nat) true)) (Value.string x) h'_1 ∧ ∃ (x_1 : ByteArray), ∃ (h' : AHeap), ACall Try.prog (67 : Nat) [Value.string x] h'_1 (Value.string x_1) h' ∧ ∃ (xs : List (List Value)), rowsV (AHeap.push h' (AObj.mk [[Value.int IntKind.i64 (↑(Prod.fst i) : Int), Value.string x_1]] (2 : Nat) true)) (Value.slice (some (Addr.mk (AHeap.n h') (0 : Nat) (some (2 : Nat)))) (1 : Nat) (2 : Nat)) = some xs ∧ (List.all xs fun (row : List Value) => decide (List.length row = (2 : Nat)) && List.all row fun (v : Value) => match v with | Value.agg cells => false | Value.tuple cells => false | Value.complex k re im => false | Value.chan r => false | x => true) = true ∧ (List.length (OX.xs (Prod.snd i)) + List.length xs) * (24 : Nat) ≤ (140737488355328 : Nat) ∧ ∃ (a : Option Addr), ∃ (n : Nat), ∃ (c : Nat), ∃ (h'_2 : AHeap), AHeap.app (AHeap.push h' (AObj.mk [[Value.int IntKind.i64 (↑(Prod.fst i) : Int), Value.string x_1]] (2 : Nat) true)) (Value.slice (OX.a (Prod.snd i)) (List.length (OX.xs (Prod.snd i))) (OX.c (Prod.snd i))) xs (2 : Nat) = some (Value.slice a n c, h'_2) ∧ ∃ (j : Nat × OX (Sh.T opinionSh)), Value.pointer (some (Addr.mk (AHeap.n h) (0 : Nat) (some (0 : Nat)))) = Value.pointer (some (Addr.mk (AHeap.n h) (0 : Nat) (some (0 : Nat)))) ∧ Value.slice a n c = Value.slice (OX.a (Prod.snd j)) (List.length (OX.xs (Prod.snd j))) (OX.c (Prod.snd j)) ∧ Value.int IntKind.i64 (IntKind.wrap IntKind.i64 ((↑(Prod.fst i) : Int) + (1 : Int))) = Value.int IntKind.i64 (↑(Prod.fst j) : Int) ∧ OX.g (Prod.snd j) = h'_2 ∧ (Prod.fst j ≤ (4 : Nat) ∧ DL opinionSh h1 (AHeap.n h) (Prod.snd j) ∧ (∃ (lo : Nat), OX.a (Prod.snd j) = some (Addr.mk lo (0 : Nat) (some (2 : Nat)))) ∧ List.length (OX.xs (Prod.snd j)) ≤ Prod.fst j) ∧ (4 : Nat) - Prod.fst j < (4 : Nat) - Prod.fst i ∧ (∀ (k : OX (Sh.T opinionSh)), DL opinionSh h1 (AHeap.n h) k ∧ (∃ (lo : Nat), OX.a k = some (Addr.mk lo (0 : Nat) (some (2 : Nat)))) ∧ List.length (OX.xs k) ≤ (4 : Nat) → DL opinionSh h1 (AHeap.n h) k ∧ (∃ (lo : Nat), OX.a k = some (Addr.mk lo (0 : Nat) (some (2 : Nat)))) ∧ List.length (OX.xs k) ≤ (4 : Nat)) ∧ ∀ (v : Value) (h : AHeap), False → False) (∃ (j : Nat × OX (Sh.T opinionSh)), Value.pointer (some (Addr.mk (AHeap.n h) (0 : Nat) (some (0 : Nat)))) = Value.pointer (some (Addr.mk (AHeap.n h) (0 : Nat) (some (0 : Nat)))) ∧ Value.slice (OX.a (Prod.snd i)) (List.length (OX.xs (Prod.snd i))) (OX.c (Prod.snd i)) = Value.slice (OX.a (Prod.snd j)) (List.length (OX.xs (Prod.snd j))) (OX.c (Prod.snd j)) ∧ Value.int IntKind.i64 (IntKind.wrap IntKind.i64 ((↑(Prod.fst i) : Int) + (1 : Int))) = Value.int IntKind.i64 (↑(Prod.fst j) : Int) ∧ OX.g (Prod.snd j) = h' ∧ (Prod.fst j ≤ (4 : Nat) ∧ DL opinionSh h1 (AHeap.n h) (Prod.snd j) ∧ (∃ (lo : Nat), OX.a (Prod.snd j) = some (Addr.mk lo (0 : Nat) (some (2 : Nat)))) ∧ List.length (OX.xs (Prod.snd j)) ≤ Prod.fst j) ∧ (4 : Nat) - Prod.fst j < (4 : Nat) - Prod.fst i ∧ (∀ (k : OX (Sh.T opinionSh)), DL opinionSh h1 (AHeap.n h) k ∧ (∃ (lo : Nat), OX.a k = some (Addr.mk lo (0 : Nat) (some (2 : Nat)))) ∧ List.length (OX.xs k) ≤ (4 : Nat) → DL opinionSh h1 (AHeap.n h) k ∧ (∃ (lo : Nat), OX.a k = some (Addr.mk lo (0 : Nat) (some (2 : Nat)))) ∧ List.length (OX.xs k) ≤ (4 : Nat)) ∧ ∀ (v : Value) (h : AHeap), False → False)) (∃ (j : OX (Sh.T opinionSh)), Value.pointer (some (Addr.mk (AHeap.n h) (0 : Nat) (some (0 : Nat)))) = Value.pointer (some (Addr.mk (AHeap.n h) (0 : Nat) (some (0 : Nat)))) ∧ Value.slice (OX.a (Prod.snd i)) (List.length (OX.xs (Prod.snd i))) (OX.c (Prod.snd i)) = Value.slice (OX.a j) (List.length (OX.xs j)) (OX.c j) ∧ OX.g j = OX.g (Prod.snd i) ∧ DL opinionSh h1 (AHeap.n h) j ∧ (∃ (lo : Nat), OX.a j = some (Addr.mk lo (0 : Nat) (some (2 : Nat)))) ∧ List.length (OX.xs j) ≤ (4 : Nat))) ∧ (True ∧ True ∧ True) ∧ (True ∧ True ∧ True) ∧ True) ∧ (True ∧ True ∧ True) ∧ True ∧ True) = _) ?_
    simp only [true_and, and_true]
    rintro ⟨i, o⟩ ⟨hi, D, ⟨lo, hlo⟩, hlen⟩
    dsimp only at *
    refine bs_d (fun hlt => ?_) (fun hge => ⟨o, rfl, rfl, D, ⟨lo, hlo⟩, by omega⟩)
    obtain ⟨b, g1, A1, d1⟩ := dr_one o.g h.n D.out.src 5 (by omega)
    refine ⟨_, _, A1, bs_nb (fun _ => ?_) (fun _ => ⟨(i + 1, ⟨o.a, o.c, o.xs, o.ids, g1⟩), rfl, by rw [wrap_i64 (by omega)]; rfl, rfl, ⟨by dsimp only; omega, D.dr d1, ⟨lo, hlo⟩, by dsimp only; omega⟩, by dsimp only; omega, fun _ h => h, fun _ _ h => h⟩)⟩
    have lp2 := AHeap.Le.push d1.wf ⟨[[.string ⟨#[97]⟩], [.string ⟨#[98]⟩], [.string ⟨#[99]⟩]], 1, true⟩
    have wp2 := d1.wf.push ⟨[[.string ⟨#[97]⟩], [.string ⟨#[98]⟩], [.string ⟨#[99]⟩]], 1, true⟩
    have d2 : Dr h.n o.g _ := d1.le lp2 wp2
    obtain ⟨t, g3, A3, ht, d3⟩ := dr_pick _ h.n d2.src (some ⟨g1.n, 0, some 1⟩) 3 4 [⟨#[97]⟩, ⟨#[98]⟩, ⟨#[99]⟩] (sl_strs [⟨#[97]⟩, ⟨#[98]⟩, ⟨#[99]⟩] 3 4 rfl) (fun l2 r e => by cases e; have := d1.src.lt; omega) (by omega)
    have hts : t.size ≤ 1000000 := by
      simp only [List.mem_cons, List.not_mem_nil, or_false] at ht
      rcases ht with rfl | rfl | rfl <;> exact Nat.le_of_ble_eq_true rfl
    obtain ⟨_, g4, A4, le4, w4, dg, rfl⟩ := l02All_spec g3 d3.wf t hts
    have d4 : Dr h.n o.g g4 := (d2.trans d3).le le4 w4
    obtain ⟨lo5, o5, e5, ea, D5, hx5, _⟩ := (D.dr d4).app (x := ((i : Int), dg)) (cs := [.int .i64 i, .string dg]) (js := []) (rn_opinion.2 ⟨rfl, rfl⟩) .nil (by simp)
    have el5 : o5.xs.length = o.xs.length + 1 := by rw [hx5]; simp
    refine ⟨_, _, A3, _, _, A4, _, rowsV_lit rfl, rfl, by simp only [List.length_cons, List.length_nil]; omega, _, _, _, _, e5, (i + 1, o5), by dsimp only; rw [ea, el5], by rw [wrap_i64 (by omega)]; rfl, rfl, ⟨by dsimp only; omega, D5, ⟨lo5, ea⟩, by dsimp only; omega⟩, by dsimp only; omega, fun _ h => h, fun _ _ h => h⟩
  refine vc_mp (by kernel_rfl : (∃ (a_1 : Option Addr), ∃ (h' : AHeap), ACall Try.prog (65 : Nat) [Value.slice a n c] h (Value.pointer a_1) h' ∧ ∃ (i : Nat × OX (Sh.T opinionSh)), Value.pointer a_1 = Value.pointer (some (Addr.mk (AHeap.n h) (0 : Nat) (some (0 : Nat)))) ∧ Value.slice (some (Addr.mk (AHeap.n h') (0 : Nat) (some (2 : Nat)))) (0 : Nat) (1 : Nat) = Value.slice (OX.a (Prod.snd i)) (List.length (OX.xs (Prod.snd i))) (OX.c (Prod.snd i)) ∧ Value.int IntKind.i64 (0 : Int) = Value.int IntKind.i64 (↑(Prod.fst i) : Int) ∧ OX.g (Prod.snd i) = AHeap.push h' (AObj.mk [] (2 : Nat) true) ∧ (Prod.fst i ≤ (4 : Nat) ∧ DL opinionSh h1 (AHeap.n h) (Prod.snd i) ∧ (∃ (lo : Nat), OX.a (Prod.snd i) = some (Addr.mk lo (0 : Nat) (some (2 : Nat)))) ∧ List.length (OX.xs (Prod.snd i)) ≤ Prod.fst i) ∧ (∀ (j : OX (Sh.T opinionSh)), DL opinionSh h1 (AHeap.n h) j ∧ (∃ (lo : Nat), OX.a j = some (Addr.mk lo (0 : Nat) (some (2 : Nat)))) ∧ List.length (OX.xs j) ≤ (4 : Nat) → ∃ (x : Bool), ∃ (h' : AHeap), ACall Try.prog (66 : Nat) [Value.pointer (some (Addr.mk (AHeap.n h) (0 : Nat) (some (0 : Nat)))), Value.int IntKind.i64 (12 : Int)] (OX.g j) (Value.bool x) h' ∧ bs x (∃ (x : Int), ∃ (h'_1 : AHeap), ACall Try.prog (69 : Nat) [Value.pointer (some (Addr.mk (AHeap.n h) (0 : Nat) (some (0 : Nat)))), Value.int IntKind.i64 (6 : Int)] h' (Value.int IntKind.i64 x) h'_1 ∧ ∃ (x_1 : Int), ∃ (h' : AHeap), ACall Try.prog (69 : Nat) [Value.pointer (some (Addr.mk (AHeap.n h) (0 : Nat) (some (0 : Nat)))), Value.int IntKind.i64 (3 : Int)] h'_1 (Value.int IntKind.i64 x_1) h' ∧ (0 : Int) ≤ IntKind.wrap IntKind.i64 ((31 : Int) + x_1) ∧ IntKind.wrap IntKind.i64 ((31 : Int) + x_1) ≤ IntKind.wrap IntKind.i64 ((31 : Int) + x_1) ∧ IntKind.wrap IntKind.i64 ((31 : Int) + x_1) * (↑(1 : Nat) : Int) ≤ (140737488355328 : Int) ∧ ∃ (s : ByteArray), AHeap.rowsOf (AHeap.push h' (AObj.mk (List.replicate (Int.toNat (IntKind.wrap IntKind.i64 ((31 : Int) + x_1))) [Value.int IntKind.u8 (Int.ofNat (0 : Nat))]) (1 : Nat) true)) (Value.slice (some (Addr.mk (AHeap.n h') (0 : Nat) (some (1 : Nat)))) (Int.toNat (IntKind.wrap IntKind.i64 ((31 : Int) + x_1))) (Int.toNat (IntKind.wrap IntKind.i64 ((31 : Int) + x_1)) + (1 : Nat))) = some (bytesRows s) ∧ ∃ (xs : List (List Value)), rowsV (AHeap.push (AHeap.push h' (AObj.mk (List.replicate (Int.toNat (IntKind.wrap IntKind.i64 ((31 : Int) + x_1))) [Value.int IntKind.u8 (Int.ofNat (0 : Nat))]) (1 : Nat) true)) (AObj.mk [[Value.int IntKind.i64 x, Value.string s]] (2 : Nat) true)) (Value.slice (some (Addr.mk (AHeap.n (AHeap.push h' (AObj.mk (List.replicate (Int.toNat (IntKind.wrap IntKind.i64 ((31 : Int) + x_1))) [Value.int IntKind.u8 (Int.ofNat (0 : Nat))]) (1 : Nat) true))) (0 : Nat) (some (2 : Nat)))) (1 : Nat) (2 : Nat)) = some xs ∧ (List.all xs fun (row : List Value) => decide (List.length row = (2 : Nat)) && List.all row fun (v : Value) => match v with | Value.agg cells => false | Value.tuple cells => false | Value.complex k re im => false | Value.chan r => false | x => true) = true ∧ (List.length (OX.xs j) + List.length xs) * (24 : Nat) ≤ (140737488355328 : Nat) ∧ ∃ (a : Option Addr), ∃ (n : Nat), ∃ (c : Nat), ∃ (h'_2 : AHeap), AHeap.app (AHeap.push (AHeap.push h' (AObj.mk (List.replicate (Int.toNat (IntKind.wrap IntKind.i64 ((31 : Int) + x_1))) [Value.int IntKind.u8 (Int.ofNat (0 : Nat))]) (1 : Nat) true)) (AObj.mk [[Value.int IntKind.i64 x, Value.string s]] (2 : Nat) true)) (Value.slice (OX.a j) (List.length (OX.xs j)) (OX.c j)) xs (2 : Nat) = some (Value.slice a n c, h'_2) ∧ Q (Value.slice a n c) h'_2) (Q (Value.slice (OX.a j) (List.length (OX.xs j)) (OX.c j)) h')) ∧ ∀ (v : Value) (h : AHeap), False → Q v h) = _) ?_
  refine ⟨_, _, A1, (0, ⟨some ⟨h1.n, 0, some 2⟩, 1, [], [h1.n], h1.push ⟨[], 2, true⟩⟩), rfl, rfl, rfl, rfl, ⟨by dsimp only; omega, DL.lit z1, ⟨h1.n, rfl⟩, by dsimp only; exact Nat.le_refl _⟩, fun o ⟨D, ⟨lo, hlo⟩, hlen⟩ => ?_, fun _ _ h => h.elim⟩
  have fin : ∀ (o : OX opinionSh.T) (lo : Nat), DL opinionSh h1 h.n o → o.a = some ⟨lo, 0, some 2⟩ → o.xs.length ≤ 5 → Q (.slice (some ⟨lo, 0, some 2⟩) o.xs.length o.c) o.g := fun o lo D e hl =>
    HQ _ _ ⟨D.out.top hw le1 (Nat.le_refl _), D.out.wf, lo, o.xs.length, o.c, o.xs, rfl, by have := D.sn.so.sl; rw [e] at this; exact this, hl⟩
  obtain ⟨b, g1, A2, d1⟩ := dr_one o.g h.n D.out.src 12 (by omega)
  refine ⟨_, _, A2, bs_of (fun _ => ?_) (fun _ => ?_)⟩
  · obtain ⟨r1, g2, A3, h3, _, h3b, d2⟩ := dr_n g1 h.n d1.src 6 (by omega)
    obtain ⟨r2, g3, A4, h4, _, h4b, d3⟩ := dr_n g2 h.n d2.src 3 (by omega)
    have e4 : IntKind.i64.wrap (31 + r2) = 31 + r2 := wrap_i64 (by have := h4b (by omega); omega)
    have h4c := h4b (by omega)
    refine ⟨_, _, A3, _, _, A4, ?_⟩
    rw [e4]
    have lp4 := AHeap.Le.push d3.wf ⟨List.replicate (31 + r2).toNat [Value.int .u8 (Int.ofNat 0)], 1, true⟩
    have d4 := ((d1.trans d2).trans d3).le lp4 (d3.wf.push _)
    obtain ⟨lo5, o5, e5, ea, D5, hx5, _⟩ := (D.dr d4).app (x := (r1, (⟨Array.replicate (31 + r2).toNat 0⟩ : ByteArray))) (cs := [.int .i64 r1, .string ⟨Array.replicate (31 + r2).toNat 0⟩]) (js := []) (rn_opinion.2 ⟨rfl, rfl⟩) .nil (by simp)
    have el5 : o5.xs.length = o.xs.length + 1 := by rw [hx5]; simp
    refine ⟨by omega, by omega, by omega, _, zeros_rows, _, rowsV_lit rfl, rfl, by simp only [List.length_cons, List.length_nil]; omega, _, _, _, _, e5, ?_⟩
    have := fin o5 lo5 D5 ea (by omega)
    rw [el5] at this
    exact this
  · rw [hlo]
    exact fin ⟨o.a, o.c, o.xs, o.ids, g1⟩ lo (D.dr d1) hlo (by dsimp only; omega)
end Go.Proofs.Ytanienlcebkijaa
end
section
namespace Go.Dat
open Go.Abs
theorem flat_rows {h : AHeap} {s : Sh} {xs : List s.T} {a : Option Addr} {n c : Nat} {f : s.T → List Value} (hf : ∀ x cs, s.rd h x cs → cs = f x) (hx : Sl h s xs (.slice a n c)) : h.rowsOf (.slice a n c) = some (xs.map f) := by
  obtain ⟨a', n', c', rows, e, h1, h2, h3, h4⟩ := hx
  cases e
  rw [h2]
  have hl := rowsOf_len h1 h2
  congr 1
  apply List.ext_getElem?
  intro i
  rw [List.getElem?_map]
  cases hi : xs[i]? with
  | none =>
    have : xs.length ≤ i := by simpa using hi
    rw [List.getElem?_eq_none (by omega)]; rfl
  | some x =>
    have hlt := (List.getElem?_eq_some_iff.1 hi).1
    have hr : rows[i]? = some rows[i] := List.getElem?_eq_getElem (by omega)
    rw [hr, hf x _ (h4 i x _ hi hr)]; rfl
end Go.Dat
namespace Go.Proofs.Ytanienlcebkijaa
open Go.Abs Go.Dat
set_option maxRecDepth 100000
end Go.Proofs.Ytanienlcebkijaa
end
section
namespace Go.Proofs.Ytanienlcebkijaa
open Go.Abs Go.Dat
set_option maxRecDepth 100000
set_option maxHeartbeats 8000000
def fagL (h : AHeap) (lo m c2 : Nat) (os : List Opn) (d : ByteArray) : Nat → LSpec
  | 0 => {
    ι := Nat
    κ := Unit
    I := fun i => i ≤ m
    μ := fun i => m - i
    head := fun i => ⟨[(3, .slice (some ⟨lo, 0, some 2⟩) m c2), (4, .string d), (5, .int .i64 (cntB os d i)), (6, .int .i64 (mostB os i)), (7, .int .i64 i)], [], h⟩
    post := fun _ => ⟨[(3, .slice (some ⟨lo, 0, some 2⟩) m c2), (4, .string d), (5, .int .i64 (cntB os d m)), (6, .int .i64 (mostB os m))], [], h⟩
    R := fun _ _ => True
    ret := fun _ _ _ => False }
  | _ => {
    ι := Nat × Nat
    κ := Nat
    I := fun i => i.1 < m ∧ i.2 ≤ m
    μ := fun i => m - i.2
    head := fun i => ⟨[(3, .slice (some ⟨lo, 0, some 2⟩) m c2), (4, .string d), (5, .int .i64 (cntB os d i.1)), (6, .int .i64 (mostB os i.1)), (7, .int .i64 i.1), (8, .int .i64 (cntB os (opAt os i.1).2 i.2)), (9, .int .i64 i.2)], [], h⟩
    post := fun i => ⟨[(3, .slice (some ⟨lo, 0, some 2⟩) m c2), (4, .string d), (5, .int .i64 (cntB os d i)), (6, .int .i64 (mostB os i)), (7, .int .i64 i), (8, .int .i64 (cntB os (opAt os i).2 m))], [], h⟩
    R := fun i j => j = i.1
    ret := fun _ _ _ => False }
theorem lawFAgreed (h : AHeap) (hw : h.wf) (a : Option Addr) (n c : Nat) (bytes : List Sh.byte.T) (hx : Sl h Sh.byte bytes (.slice a n c)) (ok : (Sh.sl Sh.byte).ok bytes) :
    ∃ v h', ACall Try.prog 3 [.slice a n c] h v h' ∧ v = .bool true := by
  obtain ⟨v1, h1, A1, le1, w1, lo, m, c2, os, rfl, hs, hm⟩ := drawAgreed_spec h hw a n c bytes hx ok
  have el : os.length = m := hs.len
  have rows : ∀ {g : AHeap}, h1.Le g → g.rowsOf (.slice (some ⟨lo, 0, some 2⟩) m c2) = some (os.map opRow) := fun le => flat_rows (fun x cs hc => rd_opinion.1 hc) (hs.mono le)
  obtain ⟨v2, h2, A2, le2, w2, rfl⟩ := implAgreed lo 0 m c2 h1 w1 os (rows (.refl _)) (by omega)
  have A3 := specAgreed lo 0 m c2 h2 os (rows le2) (by omega)
  refine acall_vc (fun _ => false) (fun r => match r with | 15 => [(0, 0, []), (1, 0, []), (2, 0, []), (3, 0, []), (5, 0, []), (6, 0, []), (7, 0, []), (8, 0, []), (4, 1, []), (9, 1, []), (10, 0, [])] | _ => []) (fagL h2 lo m c2 os (agreedB os)) mixed Try.func3 rfl rfl rfl (Nat.le_of_ble_eq_true rfl) ?_ ?_
  · refine vc_mp (by kernel_rfl : (True ∧ (True ∧ (True ∧ True) ∧ True) ∧ True ∧ True ∧ (True ∧ (True ∧ True) ∧ True) ∧ True ∧ (True ∧ (∀ (i : Nat), i ≤ m → bs (decide ((↑i : Int) < (↑m : Int))) (∃ (i_1 : Nat × Nat), Value.slice (some (Addr.mk lo (0 : Nat) (some (2 : Nat)))) m c2 = Value.slice (some (Addr.mk lo (0 : Nat) (some (2 : Nat)))) m c2 ∧ Value.string (agreedB os) = Value.string (agreedB os) ∧ Value.int IntKind.i64 (↑(cntB os (agreedB os) i) : Int) = Value.int IntKind.i64 (↑(cntB os (agreedB os) (Prod.fst i_1)) : Int) ∧ Value.int IntKind.i64 (↑(mostB os i) : Int) = Value.int IntKind.i64 (↑(mostB os (Prod.fst i_1)) : Int) ∧ Value.int IntKind.i64 (↑i : Int) = Value.int IntKind.i64 (↑(Prod.fst i_1) : Int) ∧ Value.int IntKind.i64 (0 : Int) = Value.int IntKind.i64 (↑(cntB os (Prod.snd (opAt os (Prod.fst i_1))) (Prod.snd i_1)) : Int) ∧ Value.int IntKind.i64 (0 : Int) = Value.int IntKind.i64 (↑(Prod.snd i_1) : Int) ∧ h2 = h2 ∧ (Prod.fst i_1 < m ∧ Prod.snd i_1 ≤ m) ∧ (∀ (j : Nat), j = Prod.fst i_1 → bs (decide ((↑(cntB os (Prod.snd (opAt os j)) m) : Int) > (↑(mostB os j) : Int))) (∃ (l : Nat), ∃ (r : Nat), some (Addr.mk lo (0 : Nat) (some (2 : Nat))) = some (Addr.mk l r (some (2 : Nat))) ∧ (0 : Int) ≤ (↑j : Int) ∧ (↑j : Int) < (↑m : Int) ∧ ∃ (x : ByteArray), AHeap.ld h2 l (r + Int.toNat (↑j : Int)) (1 : Nat) (1 : Nat) = some [Value.string x] ∧ bs (decide (x = agreedB os)) (∃ (j_1 : Nat), Value.slice (some (Addr.mk lo (0 : Nat) (some (2 : Nat)))) m c2 = Value.slice (some (Addr.mk lo (0 : Nat) (some (2 : Nat)))) m c2 ∧ Value.string (agreedB os) = Value.string (agreedB os) ∧ Value.int IntKind.i64 (IntKind.wrap IntKind.i64 ((↑(cntB os (agreedB os) j) : Int) + (1 : Int))) = Value.int IntKind.i64 (↑(cntB os (agreedB os) j_1) : Int) ∧ Value.int IntKind.i64 (↑(cntB os (Prod.snd (opAt os j)) m) : Int) = Value.int IntKind.i64 (↑(mostB os j_1) : Int) ∧ Value.int IntKind.i64 (IntKind.wrap IntKind.i64 ((↑j : Int) + (1 : Int))) = Value.int IntKind.i64 (↑j_1 : Int) ∧ h2 = h2 ∧ j_1 ≤ m ∧ m - j_1 < m - i ∧ (∀ (k : Unit), True → True) ∧ ∀ (v : Value) (h : AHeap), False → False) (∃ (j_1 : Nat), Value.slice (some (Addr.mk lo (0 : Nat) (some (2 : Nat)))) m c2 = Value.slice (some (Addr.mk lo (0 : Nat) (some (2 : Nat)))) m c2 ∧ Value.string (agreedB os) = Value.string (agreedB os) ∧ Value.int IntKind.i64 (↑(cntB os (agreedB os) j) : Int) = Value.int IntKind.i64 (↑(cntB os (agreedB os) j_1) : Int) ∧ Value.int IntKind.i64 (↑(cntB os (Prod.snd (opAt os j)) m) : Int) = Value.int IntKind.i64 (↑(mostB os j_1) : Int) ∧ Value.int IntKind.i64 (IntKind.wrap IntKind.i64 ((↑j : Int) + (1 : Int))) = Value.int IntKind.i64 (↑j_1 : Int) ∧ h2 = h2 ∧ j_1 ≤ m ∧ m - j_1 < m - i ∧ (∀ (k : Unit), True → True) ∧ ∀ (v : Value) (h : AHeap), False → False)) (∃ (l : Nat), ∃ (r : Nat), some (Addr.mk lo (0 : Nat) (some (2 : Nat))) = some (Addr.mk l r (some (2 : Nat))) ∧ (0 : Int) ≤ (↑j : Int) ∧ (↑j : Int) < (↑m : Int) ∧ ∃ (x : ByteArray), AHeap.ld h2 l (r + Int.toNat (↑j : Int)) (1 : Nat) (1 : Nat) = some [Value.string x] ∧ bs (decide (x = agreedB os)) (∃ (j_1 : Nat), Value.slice (some (Addr.mk lo (0 : Nat) (some (2 : Nat)))) m c2 = Value.slice (some (Addr.mk lo (0 : Nat) (some (2 : Nat)))) m c2 ∧ Value.string (agreedB os) = Value.string (agreedB os) ∧ Value.int IntKind.i64 (IntKind.wrap IntKind.i64 ((↑(cntB os (agreedB os) j) : Int) + (1 : Int))) = Value.int IntKind.i64 (↑(cntB os (agreedB os) j_1) : Int) ∧ Value.int IntKind.i64 (↑(mostB os j) : Int) = Value.int IntKind.i64 (↑(mostB os j_1) : Int) ∧ Value.int IntKind.i64 (IntKind.wrap IntKind.i64 ((↑j : Int) + (1 : Int))) = Value.int IntKind.i64 (↑j_1 : Int) ∧ h2 = h2 ∧ j_1 ≤ m ∧ m - j_1 < m - i ∧ (∀ (k : Unit), True → True) ∧ ∀ (v : Value) (h : AHeap), False → False) (∃ (j_1 : Nat), Value.slice (some (Addr.mk lo (0 : Nat) (some (2 : Nat)))) m c2 = Value.slice (some (Addr.mk lo (0 : Nat) (some (2 : Nat)))) m c2 ∧ Value.string (agreedB os) = Value.string (agreedB os) ∧ Value.int IntKind.i64 (↑(cntB os (agreedB os) j) : Int) = Value.int IntKind.i64 (↑(cntB os (agreedB os) j_1) : Int) ∧ Value.int IntKind.i64 (↑(mostB os j) : Int) = Value.int IntKind.i64 (↑(mostB os j_1) : Int) ∧ Value.int IntKind.i64 (IntKind.wrap IntKind.i64 ((↑j : Int) + (1 : Int))) = Value.int IntKind.i64 (↑j_1 : Int) ∧ h2 = h2 ∧ j_1 ≤ m ∧ m - j_1 < m - i ∧ (∀ (k : Unit), True → True) ∧ ∀ (v : Value) (h : AHeap), False → False))) ∧ ∀ (v : Value) (h : AHeap), False → False) (∃ (j : Unit), Value.slice (some (Addr.mk lo (0 : Nat) (some (2 : Nat)))) m c2 = Value.slice (some (Addr.mk lo (0 : Nat) (some (2 : Nat)))) m c2 ∧ Value.string (agreedB os) = Value.string (agreedB os) ∧ Value.int IntKind.i64 (↑(cntB os (agreedB os) i) : Int) = Value.int IntKind.i64 (↑(cntB os (agreedB os) m) : Int) ∧ Value.int IntKind.i64 (↑(mostB os i) : Int) = Value.int IntKind.i64 (↑(mostB os m) : Int) ∧ h2 = h2 ∧ True)) ∧ (True ∧ True ∧ True) ∧ (True ∧ (True ∧ (∀ (i : Nat × Nat), Prod.fst i < m ∧ Prod.snd i ≤ m → bs (decide ((↑(Prod.snd i) : Int) < (↑m : Int))) (∃ (l : Nat), ∃ (r : Nat), some (Addr.mk lo (0 : Nat) (some (2 : Nat))) = some (Addr.mk l r (some (2 : Nat))) ∧ (0 : Int) ≤ (↑(Prod.snd i) : Int) ∧ (↑(Prod.snd i) : Int) < (↑m : Int) ∧ ∃ (l_1 : Nat), ∃ (r_1 : Nat), some (Addr.mk lo (0 : Nat) (some (2 : Nat))) = some (Addr.mk l_1 r_1 (some (2 : Nat))) ∧ (0 : Int) ≤ (↑(Prod.fst i) : Int) ∧ (↑(Prod.fst i) : Int) < (↑m : Int) ∧ ∃ (x : ByteArray), AHeap.ld h2 l (r + Int.toNat (↑(Prod.snd i) : Int)) (1 : Nat) (1 : Nat) = some [Value.string x] ∧ ∃ (x_1 : ByteArray), AHeap.ld h2 l_1 (r_1 + Int.toNat (↑(Prod.fst i) : Int)) (1 : Nat) (1 : Nat) = some [Value.string x_1] ∧ bs (decide (x = x_1)) (∃ (j : Nat × Nat), Value.slice (some (Addr.mk lo (0 : Nat) (some (2 : Nat)))) m c2 = Value.slice (some (Addr.mk lo (0 : Nat) (some (2 : Nat)))) m c2 ∧ Value.string (agreedB os) = Value.string (agreedB os) ∧ Value.int IntKind.i64 (↑(cntB os (agreedB os) (Prod.fst i)) : Int) = Value.int IntKind.i64 (↑(cntB os (agreedB os) (Prod.fst j)) : Int) ∧ Value.int IntKind.i64 (↑(mostB os (Prod.fst i)) : Int) = Value.int IntKind.i64 (↑(mostB os (Prod.fst j)) : Int) ∧ Value.int IntKind.i64 (↑(Prod.fst i) : Int) = Value.int IntKind.i64 (↑(Prod.fst j) : Int) ∧ Value.int IntKind.i64 (IntKind.wrap IntKind.i64 ((↑(cntB os (Prod.snd (opAt os (Prod.fst i))) (Prod.snd i)) : Int) + (1 : Int))) = Value.int IntKind.i64 (↑(cntB os (Prod.snd (opAt os (Prod.fst j))) (Prod.snd j)) : Int) ∧ Value.int IntKind.i64 (IntKind.wrap IntKind.i64 ((↑(Prod.snd i) : Int) + (1 : Int))) = Value.int IntKind.i64 (↑(Prod.snd j) : Int) ∧ h2 = h2 ∧ (Prod.fst j < m ∧ Prod.snd j ≤ m) ∧ m - Prod.snd j < m - Prod.snd i ∧ (∀ (k : Nat), k = Prod.fst j → k = Prod.fst i) ∧ ∀ (v : Value) (h : AHeap), False → False) (∃ (j : Nat × Nat), Value.slice (some (Addr.mk lo (0 : Nat) (some (2 : Nat)))) m c2 = Value.slice (some (Addr.mk lo (0 : Nat) (some (2 : Nat)))) m c2 ∧ Value.string (agreedB os) = Value.string (agreedB os) ∧ Value.int IntKind.i64 (↑(cntB os (agreedB os) (Prod.fst i)) : Int) = Value.int IntKind.i64 (↑(cntB os (agreedB os) (Prod.fst j)) : Int) ∧ Value.int IntKind.i64 (↑(mostB os (Prod.fst i)) : Int) = Value.int IntKind.i64 (↑(mostB os (Prod.fst j)) : Int) ∧ Value.int IntKind.i64 (↑(Prod.fst i) : Int) = Value.int IntKind.i64 (↑(Prod.fst j) : Int) ∧ Value.int IntKind.i64 (↑(cntB os (Prod.snd (opAt os (Prod.fst i))) (Prod.snd i)) : Int) = Value.int IntKind.i64 (↑(cntB os (Prod.snd (opAt os (Prod.fst j))) (Prod.snd j)) : Int) ∧ Value.int IntKind.i64 (IntKind.wrap IntKind.i64 ((↑(Prod.snd i) : Int) + (1 : Int))) = Value.int IntKind.i64 (↑(Prod.snd j) : Int) ∧ h2 = h2 ∧ (Prod.fst j < m ∧ Prod.snd j ≤ m) ∧ m - Prod.snd j < m - Prod.snd i ∧ (∀ (k : Nat), k = Prod.fst j → k = Prod.fst i) ∧ ∀ (v : Value) (h : AHeap), False → False)) (∃ (j : Nat), Value.slice (some (Addr.mk lo (0 : Nat) (some (2 : Nat)))) m c2 = Value.slice (some (Addr.mk lo (0 : Nat) (some (2 : Nat)))) m c2 ∧ Value.string (agreedB os) = Value.string (agreedB os) ∧ Value.int IntKind.i64 (↑(cntB os (agreedB os) (Prod.fst i)) : Int) = Value.int IntKind.i64 (↑(cntB os (agreedB os) j) : Int) ∧ Value.int IntKind.i64 (↑(mostB os (Prod.fst i)) : Int) = Value.int IntKind.i64 (↑(mostB os j) : Int) ∧ Value.int IntKind.i64 (↑(Prod.fst i) : Int) = Value.int IntKind.i64 (↑j : Int) ∧ Value.int IntKind.i64 (↑(cntB os (Prod.snd (opAt os (Prod.fst i))) (Prod.snd i)) : Int) = Value.int IntKind.i64 (↑(cntB os (Prod.snd (opAt os j)) m) : Int) ∧ h2 = h2 ∧ j = Prod.fst i)) ∧ (True ∧ True ∧ True) ∧ (True ∧ True ∧ True) ∧ True) ∧ (True ∧ True ∧ True) ∧ True ∧ True ∧ True) ∧ True) ∧ (True ∧ (True ∧ True) ∧ True) ∧ True ∧ True) = _) ?_
    simp only [true_and, and_true]
    have rw2 := rows le2
    refine ⟨?_, ?_⟩
    · rintro i hi
      refine bs_d (fun hlt => ?_) (fun hge => ⟨(), by rw [show i = m by omega], by rw [show i = m by omega]⟩)
      have hlt' : i < m := by omega
      refine ⟨(i, 0), rfl, rfl, rfl, rfl, rfl, ⟨hlt', Nat.zero_le _⟩, ?_, fun _ _ h => h⟩
      rintro k rfl
      have di : h2.ld lo (0 + (k : Int).toNat) 1 1 = some [.string (opAt os k).2] := op_dig rw2 (i := k) (by omega)
      have cl := cnt_le os (agreedB os) k
      have key : cntB os (agreedB os) (k + 1) = cntB os (agreedB os) k + (if (opAt os k).2 = agreedB os then 1 else 0) := rfl
      have key2 : mostB os (k + 1) = if mostB os k < cntB os (opAt os k).2 os.length then cntB os (opAt os k).2 os.length else mostB os k := rfl
      rw [el] at key2
      refine bs_d (fun hm1 => ?_) (fun hm1 => ?_) <;> refine ⟨lo, 0, rfl, by omega, by omega, _, di, bs_d (fun he => ?_) (fun he => ?_)⟩ <;>
        exact ⟨k + 1, by congr 1; rw [key]; first | rw [if_pos he, wrap_i64 (by omega)]; omega | rw [if_neg he]; omega, by congr 1; rw [key2]; first | rw [if_pos (by omega)] | rw [if_neg (by omega)], by rw [wrap_i64 (by omega)]; rfl, by omega, by omega, fun _ h => h, fun _ _ h => h⟩
    · rintro ⟨i, j⟩ ⟨hi, hj⟩
      dsimp only at *
      refine bs_d (fun hlt => ?_) (fun hge => ⟨i, rfl, rfl, rfl, by rw [show j = m by omega], rfl⟩)
      have cs : cntB os (opAt os i).2 (j + 1) = cntB os (opAt os i).2 j + (if (opAt os j).2 = (opAt os i).2 then 1 else 0) := rfl
      have cl := cnt_le os (opAt os i).2 j
      have dj : h2.ld lo (0 + (j : Int).toNat) 1 1 = some [.string (opAt os j).2] := op_dig rw2 (i := j) (by omega)
      have di : h2.ld lo (0 + (i : Int).toNat) 1 1 = some [.string (opAt os i).2] := op_dig rw2 (i := i) (by omega)
      refine ⟨lo, 0, rfl, by omega, hlt, lo, 0, rfl, by omega, by omega, _, dj, _, di, bs_d (fun he => ?_) (fun he => ?_)⟩
      · rw [if_pos he] at cs
        exact ⟨(i, j + 1), rfl, rfl, rfl, by dsimp only; rw [cs, wrap_i64 (by omega)]; rfl, by rw [wrap_i64 (by omega)]; rfl, ⟨hi, by dsimp only; omega⟩, by dsimp only; omega, fun _ h => h, fun _ _ h => h⟩
      · rw [if_neg he] at cs
        exact ⟨(i, j + 1), rfl, rfl, rfl, by dsimp only; rw [cs]; rfl, by rw [wrap_i64 (by omega)]; rfl, ⟨hi, by dsimp only; omega⟩, by dsimp only; omega, fun _ h => h, fun _ _ h => h⟩
  refine vc_mp (by kernel_rfl : (bs (decide ((↑n : Int) > (1048576 : Int))) (Value.bool true = Value.bool true) (∃ (a_1 : Option Addr), ∃ (n_1 : Nat), ∃ (c_1 : Nat), ∃ (h' : AHeap), ACall Try.prog (9 : Nat) [Value.slice a n c] h (Value.slice a_1 n_1 c_1) h' ∧ ∃ (x : ByteArray), ∃ (h'_1 : AHeap), ACall Try.prog (10 : Nat) [Value.slice a_1 n_1 c_1] h' (Value.string x) h'_1 ∧ ∃ (x_1 : ByteArray), ∃ (h' : AHeap), ACall Try.prog (11 : Nat) [Value.slice a_1 n_1 c_1] h'_1 (Value.string x_1) h' ∧ bs (!decide (x = x_1)) (Value.bool false = Value.bool true) (∃ (i : Nat), Value.slice a_1 n_1 c_1 = Value.slice (some (Addr.mk lo (0 : Nat) (some (2 : Nat)))) m c2 ∧ Value.string x = Value.string (agreedB os) ∧ Value.int IntKind.i64 (0 : Int) = Value.int IntKind.i64 (↑(cntB os (agreedB os) i) : Int) ∧ Value.int IntKind.i64 (0 : Int) = Value.int IntKind.i64 (↑(mostB os i) : Int) ∧ Value.int IntKind.i64 (0 : Int) = Value.int IntKind.i64 (↑i : Int) ∧ h2 = h' ∧ i ≤ m ∧ (∀ (j : Unit), True → bs (decide (agreedB os = ByteArray.mk (Array.mk []))) (bs (decide ((↑(mostB os m) : Int) < (2 : Int))) (Value.bool true = Value.bool true) (∃ (x : ByteArray), ∃ (h' : AHeap), ACall Try.prog (11 : Nat) [Value.slice (some (Addr.mk lo (0 : Nat) (some (2 : Nat)))) m c2] h2 (Value.string x) h' ∧ Value.bool (decide (x = ByteArray.mk (Array.mk []))) = Value.bool true)) (bs (decide ((↑(cntB os (agreedB os) m) : Int) ≥ (2 : Int))) (bs (decide ((↑(mostB os m) : Int) < (3 : Int))) (Value.bool true = Value.bool true) (Value.bool (decide ((↑(cntB os (agreedB os) m) : Int) = (↑(mostB os m) : Int))) = Value.bool true)) (Value.bool false = Value.bool true))) ∧ ∀ (v : Value) (h : AHeap), False → v = Value.bool true))) = _) ?_
  refine bs_d (fun _ => rfl) (fun _ => ⟨_, _, _, _, A1, _, _, A2, _, _, A3, bs_dn (fun hne => absurd rfl hne) fun _ => ⟨0, rfl, rfl, rfl, rfl, rfl, rfl, Nat.zero_le _, fun _ _ => ?_, fun _ _ h => h.elim⟩⟩)
  refine bs_d (fun he => ?_) (fun hne => ?_)
  · exact bs_d (fun _ => rfl) (fun _ => ⟨_, _, A3, by rw [he]; rfl⟩)
  · have law := agreed_law hne
    rw [el] at law
    refine bs_d (fun _ => bs_d (fun _ => rfl) (fun h3 => ?_)) (fun h2 => by omega)
    rw [decide_eq_true]
    omega
end Go.Proofs.Ytanienlcebkijaa
end
