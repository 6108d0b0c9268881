/- W3, W4, U3, U4, U5, W6, Y2, J0, J3, J2. -/
import Derived.Test.YtanienlcebkijaaV14W1
import Derived.Shelf.Strings.OnBuilder
import Derived.Test.YtanienlcebkijaaProg
import Derived.Test.YtanienlcebkijaaV14R1
section
namespace Go.Dat
open Go.Abs
structure CmpI (xs : List ByteArray) (k0 k2 k : Nat) (ys : List ByteArray) : Prop where
  len : ys.length = xs.length
  h0 : k0 ≤ k
  hk : k + 1 ≤ k0 + k2
  h2 : 1 ≤ k2
  hn : k0 + k2 ≤ xs.length
  same : ∀ p, k0 + k2 ≤ p + 1 → ys[p]? = xs[p]?
  mem : ∀ t, t ∈ ys.take k ↔ t ∈ xs.take (k0 + k2)
theorem take_succ_mem {α : Type} {xs : List α} {n : Nat} {x t : α} (h : xs[n]? = some x) : t ∈ xs.take (n + 1) ↔ t ∈ xs.take n ∨ t = x := by
  have hl := (List.getElem?_eq_some_iff.1 h).1
  have hx : xs[n] = x := by rw [List.getElem?_eq_getElem hl] at h; cases h; rfl
  rw [List.take_succ_eq_append_getElem hl, List.mem_append, List.mem_singleton, hx]
theorem mem_take_get {α : Type} {xs : List α} {n m : Nat} {x : α} (h : xs[n]? = some x) (hm : n < m) : x ∈ xs.take m := List.mem_of_getElem? (show (xs.take m)[n]? = some x by rw [List.getElem?_take, if_pos hm]; exact h)
theorem CmpI.start {xs : List ByteArray} {k0 : Nat} {x : ByteArray} (h1 : 1 ≤ k0) (ha : xs[k0 - 1]? = some x) (hb : xs[k0]? = some x) : CmpI xs k0 1 k0 xs := by
  have hl := (List.getElem?_eq_some_iff.1 hb).1
  refine ⟨rfl, Nat.le_refl _, Nat.le_refl _, Nat.le_refl _, by omega, fun _ _ => rfl, fun t => ?_⟩
  rw [take_succ_mem hb]
  exact ⟨.inl, fun h => h.elim id fun e => by rw [e]; exact mem_take_get ha (by omega)⟩
theorem CmpI.step {xs ys : List ByteArray} {k0 k2 k : Nat} {x : ByteArray} (I : CmpI xs k0 k2 k ys) (hb : xs[k0 + k2]? = some x) : CmpI xs k0 (k2 + 1) (k + 1) (ys.set k x) := by
  have hl := (List.getElem?_eq_some_iff.1 hb).1
  have h2 := I.h2
  have hk := I.hk
  have h0 := I.h0
  have hlen := I.len
  refine ⟨by rw [List.length_set]; exact I.len, by omega, by omega, by omega, by omega, fun p hp => ?_, fun t => ?_⟩
  · rw [List.getElem?_set, if_neg (by omega)]
    exact I.same p (by omega)
  · have hs : (ys.set k x)[k]? = some x := by rw [List.getElem?_set, if_pos rfl, if_pos (by omega)]
    rw [show k0 + (k2 + 1) = k0 + k2 + 1 by omega, take_succ_mem hb, take_succ_mem hs, ← I.mem, List.take_set_of_le (Nat.le_refl _)]
end Go.Dat
end
section
namespace Go.Dat
open Go.Abs
end Go.Dat
end
section
namespace Go.Dat
open Go.Abs
def ChAt (xs : List changeSh.T) (f v : Int) (i : Nat) : Prop := ∃ x : changeSh.T, xs[i]? = some x ∧ (show Int from x.1) = f ∧ (show Int from x.2.1) = v
def CgAt (xs : List changeSh.T) (i : Nat) : Prop := ∃ x : changeSh.T, xs[i]? = some x ∧ ChgOk x.1 x.2.1 x.2.2 ∧ ∀ j, j < i → ¬ ChAt xs x.1 x.2.1 j
theorem CgAt.out {xs : List changeSh.T} {i : Nat} {f v : Int} {p : List proofSh.T} (H : CgAt xs i) (e : xs[i]? = some (f, v, p)) : ChgOk f v p ∧ ∀ j, j < i → ¬ ChAt xs f v j := by
  obtain ⟨x, e', h1, h2⟩ := H
  rw [e] at e'
  cases e'
  exact ⟨h1, h2⟩
theorem ChAt.pre {xs : List changeSh.T} {f v : Int} {i j : Nat} (hj : j < i) : ChAt (xs.take i) f v j ↔ ChAt xs f v j := by
  unfold ChAt
  rw [List.getElem?_take, if_pos hj]
theorem IdxRes.none {P : Nat → Prop} {n : Nat} {r : Int} (H : IdxRes P n r) : r < 0 ↔ ∀ j, j < n → ¬ P j := by
  rcases H with ⟨rfl, h⟩ | ⟨m, hm, rfl, h1, h2⟩
  · exact ⟨fun _ => h, fun _ => by decide⟩
  · exact ⟨fun hlt => by omega, fun H => absurd h1 (H m hm)⟩
end Go.Dat
namespace Go.Proofs.Ytanienlcebkijaa
open Go.Abs Go.Dat
set_option maxRecDepth 100000
set_option maxHeartbeats 8000000
end Go.Proofs.Ytanienlcebkijaa
end
section
namespace Go.Dat
open Go.Abs
end Go.Dat
namespace Go.Proofs.Ytanienlcebkijaa
open Go.Abs Go.Dat
set_option maxRecDepth 100000
set_option maxHeartbeats 8000000
end Go.Proofs.Ytanienlcebkijaa
end
section
namespace Go.Proofs.Ytanienlcebkijaa
open Go.Abs Go.Dat
set_option maxRecDepth 100000
set_option maxHeartbeats 8000000
end Go.Proofs.Ytanienlcebkijaa
end
section
namespace Go.Dat
open Go.Abs
structure OX (α : Type) where
  a : Option Addr
  c : Nat
  xs : List α
  ids : List Nat
  g : AHeap
def OXok (s : Sh) (h : AHeap) (o : OX s.T) : Prop := SoB s h o.g o.a o.xs.length o.c o.xs o.ids
theorem OXok.nil {s : Sh} {h : AHeap} (hw : h.wf) : OXok s h ⟨none, 0, [], [], h⟩ := SoB.nil hw
theorem OXok.grow {s : Sh} {h : AHeap} {o : OX s.T} (B : OXok s h o) {g' : AHeap} (le : o.g.Le g') (wf : g'.wf) : OXok s h ⟨o.a, o.c, o.xs, o.ids, g'⟩ := SoB.grow B le wf
theorem rowsV_push {g : AHeap} {z : Nat} {cs : List Value} {c : Nat} : rowsV (g.push ⟨[cs], z, true⟩) (.slice (some ⟨g.n, 0, some z⟩) 1 c) = some [cs] := by
  show (g.push ⟨[cs], z, true⟩).rowsOf (.slice (some ⟨g.n, 0, some z⟩) 1 c) = some [cs]
  rw [get_rows AHeap.get_push_eq (by simp)]; rfl
theorem OXok.app {s : Sh} {h : AHeap} {o : OX s.T} (B : OXok s h o) {x : s.T} {cs : List Value} {js : List Nat} (rn : s.rn o.g x cs js) (fj : Fresh h.n o.g.n js) (d : ∀ z ∈ o.ids, z ∉ js) :
    ∃ o' : OX s.T, (o.g.push ⟨[cs], s.cells, true⟩).app (.slice o.a o.xs.length o.c) [cs] s.cells = some (.slice o'.a o'.xs.length o'.c, o'.g) ∧ OXok s h o' ∧ o'.xs = o.xs ++ [x] ∧ o.g.n ≤ o'.g.n ∧ (∀ z w, z ∉ o.ids → o.g.get z = some w → o'.g.get z = some w) ∧ ∀ z ∈ o'.ids, z = o.g.n + 1 ∨ z ∈ o.ids ∨ z ∈ js := by
  have lp := AHeap.Le.push B.wf ⟨[cs], s.cells, true⟩
  obtain ⟨l, h', ids', e, B', hn, hi, hk⟩ := (SoB.grow B lp (B.wf.push _)).app (rn.le lp) (fj.widen (Nat.le_refl _) lp.n) d
  have el : (o.xs ++ [x]).length = o.xs.length + 1 := by simp
  refine ⟨⟨some ⟨l, 0, some s.cells⟩, 0, o.xs ++ [x], ids', h'⟩, by dsimp only; rw [el]; exact e, ?_, rfl, Nat.le_trans lp.n hn, fun z w hz hw => hk z w hz (lp.get z w hw), fun z hz => hi z hz⟩
  show SoB s h h' (some ⟨l, 0, some s.cells⟩) (o.xs ++ [x]).length 0 (o.xs ++ [x]) ids'
  rw [el]; exact B'
theorem OXok.sn {s : Sh} {h : AHeap} {o : OX s.T} (B : OXok s h o) : Sn o.g s o.xs (.slice o.a o.xs.length o.c) o.ids := SoB.sn B
end Go.Dat
namespace Go.Proofs.Ytanienlcebkijaa
open Go.Abs Go.Dat
set_option maxRecDepth 100000
set_option maxHeartbeats 8000000
end Go.Proofs.Ytanienlcebkijaa
end
section
namespace Go.Proofs.Ytanienlcebkijaa
open Go.Abs Go.Dat
structure DL (s : Sh) (h : AHeap) (l : Nat) (o : OX s.T) : Prop where
  B : SoB s (E0 h.n) o.g o.a o.xs.length o.c o.xs o.ids
  out : Dr l h o.g
theorem DL.nl {s : Sh} {h : AHeap} {l : Nat} {o : OX s.T} (D : DL s h l o) : l ∉ o.ids := fun e => by
  have h1 : h.n ≤ l := (D.B.fr.bd l e).1
  have := D.out.s0.lt
  omega
theorem DL.dr {s : Sh} {h : AHeap} {l : Nat} {o : OX s.T} (D : DL s h l o) {g : AHeap} (d : Dr l o.g g) : DL s h l ⟨o.a, o.c, o.xs, o.ids, g⟩ :=
  ⟨d.sob D.B D.nl, D.out.trans d⟩
theorem DL.sn {s : Sh} {h : AHeap} {l : Nat} {o : OX s.T} (D : DL s h l o) : Sn o.g s o.xs (.slice o.a o.xs.length o.c) o.ids := D.B.sn
theorem DL.nil {s : Sh} {h : AHeap} {l : Nat} (z : Srz h l) : DL s h l ⟨none, 0, [], [], h⟩ := ⟨.new z.wf (Nat.le_refl _), .refl z⟩
theorem DL.lit {s : Sh} {h : AHeap} {l : Nat} (z : Srz h l) : DL s h l ⟨some ⟨h.n, 0, some s.cells⟩, 1, [], [h.n], h.push ⟨[], s.cells, true⟩⟩ := by
  have lp := AHeap.Le.push z.wf ⟨[], s.cells, true⟩
  have wp := z.wf.push ⟨[], s.cells, true⟩
  refine ⟨⟨E0.le lp.n, wp, E0.wf, rfl, ?_, .inr ⟨h.n, [], [], rfl, AHeap.get_push_eq, rfl, rfl, rfl, .inr rfl, fun i x row js h1 => by cases h1⟩⟩, .of z lp wp⟩
  exact Fresh.one (show h.n < h.n + 1 by omega)
theorem DL.app {s : Sh} {h : AHeap} {l : Nat} {o : OX s.T} (D : DL s h l o) {x : s.T} {cs : List Value} {js : List Nat} (rn : s.rn o.g x cs js) (fj : Fresh h.n o.g.n js) (d : ∀ z ∈ o.ids, z ∉ js) :
    ∃ (lo : Nat) (o' : OX s.T), (o.g.push ⟨[cs], s.cells, true⟩).app (.slice o.a o.xs.length o.c) [cs] s.cells = some (.slice (some ⟨lo, 0, some s.cells⟩) (o.xs.length + 1) o'.c, o'.g) ∧ o'.a = some ⟨lo, 0, some s.cells⟩ ∧ DL s h l o' ∧ o'.xs = o.xs ++ [x] ∧ ∀ z ∈ o'.ids, z = o.g.n + 1 ∨ z ∈ o.ids ∨ z ∈ js := by
  have lp := AHeap.Le.push D.out.wf ⟨[cs], s.cells, true⟩
  have wp := D.out.wf.push ⟨[cs], s.cells, true⟩
  obtain ⟨lo, h', ids', e, B', k, wf', hi⟩ := (SoB.grow D.B lp wp).app' (rn.le lp) (fj.widen (Nat.le_refl _) lp.n) d
  refine ⟨lo, ⟨some ⟨lo, 0, some s.cells⟩, 0, o.xs ++ [x], ids', h'⟩, e, rfl, ⟨?_, (D.out.le lp wp).step k wf' (fun z hz => (D.B.fr.bd z hz).1)⟩, rfl, fun z hz => hi z hz⟩
  have el : (o.xs ++ [x]).length = o.xs.length + 1 := by simp
  show SoB s (E0 h.n) h' (some ⟨lo, 0, some s.cells⟩) (o.xs ++ [x]).length 0 (o.xs ++ [x]) ids'
  rw [el]; exact B'
end Go.Proofs.Ytanienlcebkijaa
end
section
namespace Go.Proofs
open Go.Shelf
def Try.lays156_ren : Go.Shelf.Ren := ⟨fun | 156 => 81 | 165 => 139 | 166 => 140 | 169 => 141 | 240 => 192 | 241 => 193 | 276 => 212 | 277 => 213 | n => n, fun | 31 => 31 | 9 => 9 | 3 => 3 | 4 => 4 | 0 => 0 | 20 => 20 | 72 => 173 | 76 => 177 | 70 => 171 | 37 => 22 | 75 => 176 | 127 => 217 | 164 => 236 | 5 => 5 | 80 => 179 | n => n, fun | n => n⟩
theorem Try.lays156 : Go.Proofs.Lays.n156 Try.prog Try.lays156_ren := {
  mixed := by kernel_rfl
  f156 := Try.func81.trans (congrArg some (by kernel_rfl))
  f165 := Try.func139.trans (congrArg some (by kernel_rfl))
  f166 := Try.func140.trans (congrArg some (by kernel_rfl))
  f169 := Try.func141.trans (congrArg some (by kernel_rfl))
  f240 := Try.func192.trans (congrArg some (by kernel_rfl))
  f241 := Try.func193.trans (congrArg some (by kernel_rfl))
  f276 := Try.func212.trans (congrArg some (by kernel_rfl))
  f277 := Try.func213.trans (congrArg some (by kernel_rfl))
  t0 := Try.underlying0
  a0 := Try.isAgg0
  z0 := Try.sizeOf0
  v0 := Try.zeroValue0
  t3 := Try.underlying3
  a3 := Try.isAgg3
  z3 := Try.sizeOf3
  v3 := Try.zeroValue3
  t4 := Try.underlying4
  a4 := Try.isAgg4
  z4 := Try.sizeOf4
  v4 := Try.zeroValue4
  t9 := Try.underlying9
  a9 := Try.isAgg9
  z9 := Try.sizeOf9
  v9 := Try.zeroValue9
  t20 := Try.underlying20
  a20 := Try.isAgg20
  z20 := Try.sizeOf20
  v20 := Try.zeroValue20
  t31 := Try.underlying31
  a31 := Try.isAgg31
  z31 := Try.sizeOf31
  v31 := Try.zeroValue31
  t37 := Try.underlying22
  a37 := Try.isAgg22
  z37 := Try.sizeOf22
  v37 := Try.zeroValue22
  t70 := Try.underlying171
  a70 := Try.isAgg171
  z70 := Try.sizeOf171
  v70 := Try.zeroValue171
  t72 := Try.underlying173
  a72 := Try.isAgg173
  z72 := Try.sizeOf173
  v72 := Try.zeroValue173
  t75 := Try.underlying176
  a75 := Try.isAgg176
  z75 := Try.sizeOf176
  v75 := Try.zeroValue176
  t76 := Try.underlying177
  a76 := Try.isAgg177
  z76 := Try.sizeOf177
  v76 := Try.zeroValue177
  t127 := Try.underlying217
  a127 := Try.isAgg217
  z127 := Try.sizeOf217
  v127 := Try.zeroValue217
  t164 := Try.underlying236
  a164 := Try.isAgg236
  z164 := Try.sizeOf236
  v164 := Try.zeroValue236 }
theorem Try.Builder_Extra_156 : Builder.Extra Try.prog Try.lays156_ren := {
  sizeBuilder := by kernel_rfl
  liesBuilder := by kernel_rfl
  t5 := Try.underlying5
  a5 := Try.isAgg5
  z5 := Try.sizeOf5
  v5 := Try.zeroValue5
  infoByte := by kernel_rfl
  cellsByte := by kernel_rfl
  sizeByte := by kernel_rfl
  neB5 := by decide }
open Go.RowKit in
theorem Try.strings_Join_none (a : Option Addr) (c : Nat) (sep : ByteArray) (w : World) :
    Calls Try.prog 81 #[.slice a 0 c, .string sep] w fun e w' => e = .returned (.string ⟨#[]⟩) ∧ w' = w := Any.strings_Join_none Try.lays156 Try.Builder_Extra_156 a c sep w
open Go.RowKit in
theorem Try.strings_Join (bk o c : Nat) (xs : List ByteArray) (sep : ByteArray) (w : World) (hcells : ∀ (j : Nat) x, xs[j]? = some x → w.cell? ⟨bk, o + j, none⟩ = some (.string x)) (hbk : bk < w.heap.size) (hN : xs.length ≤ 140737488355328) (hcap : xs.length ≤ c) (hlen : (Lib.join (xs.map (·.data.toList)) sep.data.toList).length ≤ 140737488355328) :
    Calls Try.prog 81 #[.slice (some ⟨bk, o, none⟩) xs.length c, .string sep] w fun e w' => e = .returned (.string ⟨(Lib.join (xs.map (·.data.toList)) sep.data.toList).toArray⟩) ∧ Below w.heap.size w w' := Any.strings_Join Try.lays156 Try.Builder_Extra_156 bk o c xs sep w hcells hbk hN hcap hlen
end Go.Proofs
end
section
namespace Go.Proofs.Ytanienlcebkijaa
open Go.Abs Go.Dat
set_option maxRecDepth 100000
set_option maxHeartbeats 4000000
theorem join_spec (h : AHeap) (a : Option Addr) (n c : Nat) (xs : List Sh.str.T) (hx : Sl h Sh.str xs (.slice a n c)) (hn : n ≤ 140737488355328) (hs : (cat xs).size ≤ 140737488355328) :
    ACall Try.prog 81 [.slice a n c, .string ⟨#[]⟩] h (.string (cat xs)) h := by
  have en := hx.len
  refine acall_of_below fun L F R w0 w ARGS r ha => ?_
  obtain ⟨hsz, hv⟩ := ha
  obtain ⟨A0, A1, rfl⟩ : ∃ A0 A1, ARGS = #[A0, A1] := by
    have : ARGS.size = 2 := hsz.symm
    match ARGS, this with
    | ⟨[x, y]⟩, _ => exact ⟨x, y, rfl⟩
  have v0 := hv 0 _ _ rfl rfl
  have v1 := hv 1 _ _ rfl rfl
  obtain rfl : A1 = .string ⟨#[]⟩ := by cases v1; rfl
  have catl := cat_list xs
  have hj : Lib.join (xs.map (·.data.toList)) (⟨#[]⟩ : ByteArray).data.toList = (cat xs).data.toList := by
    rw [catl]; exact inter_nil _
  rcases Nat.eq_zero_or_pos n with h0 | hp
  · have xs0 : xs = [] := List.eq_nil_of_length_eq_zero (by omega)
    subst xs0
    subst h0
    obtain ⟨A, C, rfl⟩ : ∃ A C, A0 = .slice A 0 C := by cases v0 <;> exact ⟨_, _, rfl⟩
    refine (Try.strings_Join_none A C ⟨#[]⟩ w).mono ?_
    rintro e W ⟨he, rfl⟩
    exact ⟨_, he, .string _, .refl _ _⟩
  · obtain ⟨hsa, rows, hrows⟩ := hx.row
    rcases hsa with ⟨_, h0, _⟩ | ⟨l, rr, rfl⟩
    · omega
    have key : ∀ (i : Nat) (x : ByteArray), xs[i]? = some x → h.ld l (rr + i) 0 1 = some [.string x] := fun i x hi => by
      obtain ⟨l', r', row, e, _, hrd, hld⟩ := hx.elem hi
      cases e
      rw [show row = [.string x] from hrd] at hld
      exact hld
    cases v0 with
    | slice hL he hC hA room hcc =>
      rename_i C s A
      have hA : A = ⟨s.blk, s.base + rr * 1, none⟩ := hA.resolve_left (by omega)
      subst hA
      have cellAt : ∀ (j : Nat) (x : ByteArray), xs[j]? = some x → w.cell? ⟨s.blk, s.base + rr * 1 + j, none⟩ = some (.string x) := fun j x hj => by
        have := key j x hj
        unfold AHeap.ld at this
        cases ho : h.get l with
        | none => rw [ho] at this; cases this
        | some o =>
          rw [ho] at this
          dsimp only at this
          cases hrow : o.rows[rr + j]? with
          | none => rw [hrow] at this; cases this
          | some row =>
            rw [hrow] at this
            dsimp only at this
            have ob := r.obj l o s ho hL
            have hl1 := ob.len _ _ hrow
            have es : s.esz = 1 := he
            have hl1' : row.length = 1 := by rw [hl1, ← ob.esz, es]
            match row, hl1' with
            | [v], _ =>
              simp at this
              subst this
              obtain ⟨V, hV, hvr⟩ := ob.cell _ _ hrow 0 _ rfl
              rw [es] at hV
              cases hvr
              rw [← hV]
              congr 2
              omega
      have hblk : s.blk < w.heap.size := by
        obtain ⟨x, hx0⟩ : ∃ x : ByteArray, xs[0]? = some x := ⟨_, List.getElem?_eq_getElem (by omega)⟩
        have := key 0 x hx0
        unfold AHeap.ld at this
        cases ho : h.get l with
        | none => rw [ho] at this; cases this
        | some o => exact (r.obj l o s ho hL).lt
      subst en
      refine (Try.strings_Join s.blk (s.base + rr * 1) C xs ⟨#[]⟩ w cellAt hblk hn hC ?_).mono ?_
      · rw [hj, Array.length_toList]; exact hs
      · rintro e W ⟨he, hb⟩
        refine ⟨_, he, ?_, hb⟩
        rw [hj]
        exact .string _
end Go.Proofs.Ytanienlcebkijaa
end
section
namespace Go.Dat
open Go.Abs
def Chs (xs : List Sh.str.T) : Prop := xs.length ≤ 400 ∧ (∀ (j : Nat) (t : ByteArray), xs[j]? = some t → ¬ 500 < t.size) ∧ (cat xs).size ≤ 20000
open Classical in
noncomputable def joinB (xs : List Sh.str.T) : ByteArray := if Chs xs then cat xs else ⟨#[]⟩
theorem joinB_pos {xs : List Sh.str.T} (h : Chs xs) : joinB xs = cat xs := by unfold joinB; rw [if_pos h]
theorem joinB_neg {xs : List Sh.str.T} (h : ¬ Chs xs) : joinB xs = ⟨#[]⟩ := by unfold joinB; rw [if_neg h]
theorem rows_ok (d : ByteArray) : ((bytesRows d).all fun row => decide (row.length = 1) && row.all fun v => match v with | .agg _ => false | .tuple _ => false | .complex _ _ _ => false | .chan _ => false | _ => true) = true := by
  unfold bytesRows
  rw [List.all_map, List.all_eq_true]
  intro x _
  rfl
theorem cat_take {xs : List Sh.str.T} {i : Nat} {t : ByteArray} (h : xs[i]? = some t) : cat (xs.take (i + 1)) = cat (xs.take i) ++ t := by
  obtain ⟨hi, e⟩ := List.getElem?_eq_some_iff.1 h
  rw [List.take_succ_eq_append_getElem hi, cat_append, e]
  show cat (xs.take i) ++ (t ++ ⟨#[]⟩) = _
  rw [ba_append_nil]
theorem cat_take_le {xs : List Sh.str.T} (i : Nat) : (cat (xs.take i)).size ≤ (cat xs).size := by
  have : cat xs = cat (xs.take i) ++ cat (xs.drop i) := by rw [← cat_append, List.take_append_drop]
  rw [this, ByteArray.size_append]; omega
end Go.Dat
namespace Go.Proofs.Ytanienlcebkijaa
open Go.Abs Go.Dat
set_option maxRecDepth 100000
set_option maxHeartbeats 4000000
theorem chunk1_spec (h : AHeap) (t : ByteArray) : ACall Try.prog 80 [.string t] h (.bool (tr (500 < t.size))) h := by
  refine acall_out (acall_vc (fun _ => false) (fun _ => []) (fun _ => .none) mixed Try.func80 rfl rfl rfl (Nat.le_of_ble_eq_true rfl) (by refine vc_mp (by kernel_rfl : (True ∧ True ∧ True) = _) ?_; simp only [and_self]) ?_)
  refine vc_mp (by kernel_rfl : (Value.bool (decide ((↑(ByteArray.size t) : Int) > (500 : Int))) = Value.bool (tr ((500 : Nat) < ByteArray.size t)) ∧ h = h) = _) ?_
  refine ⟨congrArg _ ?_, rfl⟩
  by_cases e : (t.size : Int) > 500
  · rw [decide_eq_true e]; exact tr_true (by omega)
  · rw [decide_eq_false e]; exact tr_false (by omega)
def ixchL (a : Option Addr) (n c : Nat) (h : AHeap) (xs : List Sh.str.T) : LSpec where
  ι := Nat
  κ := Unit
  I := fun i => i ≤ n ∧ ∀ (j : Nat) (t : ByteArray), j < i → xs[j]? = some t → ¬ 500 < t.size
  μ := fun i => n - i
  head := fun i => ⟨[(0, .slice a n c), (1, .func (.func 80) #[] #[]), (7, .int .i64 n), (8, .int .i64 i)], [], h⟩
  post := fun _ => ⟨[], [], h⟩
  R := fun _ _ => ∀ (j : Nat) (t : ByteArray), xs[j]? = some t → ¬ 500 < t.size
  ret := fun _ v h' => ∃ r : Int, v = .int .i64 r ∧ h' = h ∧ 0 ≤ r ∧ ∃ (j : Nat) (t : ByteArray), xs[j]? = some t ∧ 500 < t.size
theorem indexCh_spec (h : AHeap) (a : Option Addr) (n c : Nat) (xs : List Sh.str.T) (hx : Sl h Sh.str xs (.slice a n c)) (hn : n ≤ 9223372036854775807) :
    ∃ v h', ACall Try.prog 138 [.slice a n c, .func (.func 80) #[] #[]] h v h' ∧ ∃ r : Int, v = .int .i64 r ∧ h' = h ∧ (0 ≤ r ↔ ∃ (j : Nat) (t : ByteArray), xs[j]? = some t ∧ 500 < t.size) := by
  have en := hx.len
  refine acall_vc (fun _ => true) (fun _ => []) (fun _ => ixchL a n c h xs) mixed Try.func138 rfl rfl rfl (Nat.le_of_ble_eq_true rfl) ?_ ?_
  · refine vc_mp (by kernel_rfl : (True ∧ (True ∧ (∀ (i : Nat), (i ≤ n ∧ ∀ (j : Nat) (t : ByteArray), j < i → xs[j]? = some t → ¬(500 : Nat) < ByteArray.size t) → bs (decide ((↑i : Int) < (↑n : Int))) (∃ (l : Nat), ∃ (r : Nat), a = some (Addr.mk l r (some (1 : Nat))) ∧ (0 : Int) ≤ (↑i : Int) ∧ (↑i : Int) < (↑n : Int) ∧ ∃ (x : ByteArray), AHeap.ld h l (r + Int.toNat (↑i : Int)) (0 : Nat) (1 : Nat) = some [Value.string x] ∧ ∃ (x_1 : Bool), ∃ (h' : AHeap), ACall Try.prog (80 : FuncId) [Value.string x] h (Value.bool x_1) h' ∧ bs x_1 (∃ (r : Int), Value.int IntKind.i64 (↑i : Int) = Value.int IntKind.i64 r ∧ h' = h ∧ (0 : Int) ≤ r ∧ ∃ (j : Nat), ∃ (t : ByteArray), xs[j]? = some t ∧ (500 : Nat) < ByteArray.size t) (∃ (j : Nat), Value.slice a n c = Value.slice a n c ∧ Value.func (Fn.func (80 : FuncId)) (Array.mk []) (Array.mk []) = Value.func (Fn.func (80 : FuncId)) (Array.mk []) (Array.mk []) ∧ Value.int IntKind.i64 (↑n : Int) = Value.int IntKind.i64 (↑n : Int) ∧ Value.int IntKind.i64 (IntKind.wrap IntKind.i64 ((↑i : Int) + (1 : Int))) = Value.int IntKind.i64 (↑j : Int) ∧ h = h' ∧ (j ≤ n ∧ ∀ (j_1 : Nat) (t : ByteArray), j_1 < j → xs[j_1]? = some t → ¬(500 : Nat) < ByteArray.size t) ∧ n - j < n - i ∧ (∀ (k : Unit), (∀ (j : Nat) (t : ByteArray), xs[j]? = some t → ¬(500 : Nat) < ByteArray.size t) → ∀ (j : Nat) (t : ByteArray), xs[j]? = some t → ¬(500 : Nat) < ByteArray.size t) ∧ ∀ (v : Value) (h_1 : AHeap), (∃ (r : Int), v = Value.int IntKind.i64 r ∧ h_1 = h ∧ (0 : Int) ≤ r ∧ ∃ (j : Nat), ∃ (t : ByteArray), xs[j]? = some t ∧ (500 : Nat) < ByteArray.size t) → ∃ (r : Int), v = Value.int IntKind.i64 r ∧ h_1 = h ∧ (0 : Int) ≤ r ∧ ∃ (j : Nat), ∃ (t : ByteArray), xs[j]? = some t ∧ (500 : Nat) < ByteArray.size t)) (∃ (j : Unit), h = h ∧ ∀ (j : Nat) (t : ByteArray), xs[j]? = some t → ¬(500 : Nat) < ByteArray.size t)) ∧ True ∧ (True ∧ True) ∧ (True ∧ True ∧ (True ∧ True) ∧ True) ∧ True) ∧ True ∧ True) = _) ?_
    simp only [true_and, and_true]
    rintro (i : Nat) ⟨hi, hall⟩
    refine bs_d (fun hlt => ?_) (fun hge => ?_)
    · have hio : i < xs.length := by omega
      obtain ⟨t, hat⟩ : ∃ y : ByteArray, xs[i]? = some y := ⟨_, List.getElem?_eq_getElem hio⟩
      obtain ⟨l, r, row, ha, _, hrd, hld⟩ := hx.elem hat
      obtain rfl : row = [.string t] := hrd
      refine ⟨l, r, ha, Int.natCast_nonneg _, hlt, _, hld, _, _, chunk1_spec h t, bs_of (fun e => ⟨_, rfl, rfl, Int.natCast_nonneg _, i, t, hat, of_tr e⟩) (fun e => ?_)⟩
      refine ⟨i + 1, by rw [wrap_i64 (by omega)]; rfl, rfl, ⟨by omega, fun j t' hj hj2 => ?_⟩, by omega, fun _ h => h, fun _ _ h => h⟩
      rcases Nat.lt_succ_iff_lt_or_eq.1 hj with hj | rfl
      · exact hall j t' hj hj2
      · rw [hat] at hj2; cases hj2; exact of_trn e
    · refine ⟨(), fun j t hj => hall j t ?_ hj⟩
      have := (List.getElem?_eq_some_iff.1 hj).1
      omega
  · refine vc_mp (by kernel_rfl : (∃ (i : Nat), Value.slice a n c = Value.slice a n c ∧ Value.func (Fn.func (80 : FuncId)) (Array.mk []) (Array.mk []) = Value.func (Fn.func (80 : FuncId)) (Array.mk []) (Array.mk []) ∧ Value.int IntKind.i64 (↑n : Int) = Value.int IntKind.i64 (↑n : Int) ∧ Value.int IntKind.i64 (0 : Int) = Value.int IntKind.i64 (↑i : Int) ∧ h = h ∧ (i ≤ n ∧ ∀ (j : Nat) (t : ByteArray), j < i → xs[j]? = some t → ¬(500 : Nat) < ByteArray.size t) ∧ (∀ (j : Unit), (∀ (j : Nat) (t : ByteArray), xs[j]? = some t → ¬(500 : Nat) < ByteArray.size t) → ∃ (r : Int), Value.int IntKind.i64 (-1 : Int) = Value.int IntKind.i64 r ∧ h = h ∧ ((0 : Int) ≤ r ↔ ∃ (j : Nat), ∃ (t : ByteArray), xs[j]? = some t ∧ (500 : Nat) < ByteArray.size t)) ∧ ∀ (v : Value) (h_1 : AHeap), (∃ (r : Int), v = Value.int IntKind.i64 r ∧ h_1 = h ∧ (0 : Int) ≤ r ∧ ∃ (j : Nat), ∃ (t : ByteArray), xs[j]? = some t ∧ (500 : Nat) < ByteArray.size t) → ∃ (r : Int), v = Value.int IntKind.i64 r ∧ h_1 = h ∧ ((0 : Int) ≤ r ↔ ∃ (j : Nat), ∃ (t : ByteArray), xs[j]? = some t ∧ (500 : Nat) < ByteArray.size t)) = _) ?_
    refine ⟨(0 : Nat), rfl, rfl, rfl, rfl, rfl, ⟨Nat.zero_le _, fun j _ hj => absurd hj (Nat.not_lt_zero _)⟩, fun _ e => ⟨_, rfl, rfl, ?_⟩, fun _ _ ⟨r, e1, e2, e3, e4⟩ => ⟨r, e1, e2, fun _ => e4, fun _ => e3⟩⟩
    exact ⟨fun e' => absurd e' (by omega), fun ⟨j, t, h1, h2⟩ => absurd h2 (e j t h1)⟩
theorem containsCh_spec (h : AHeap) (a : Option Addr) (n c : Nat) (xs : List Sh.str.T) (hx : Sl h Sh.str xs (.slice a n c)) (hn : n ≤ 9223372036854775807) :
    ACall Try.prog 79 [.slice a n c, .func (.func 80) #[] #[]] h (.bool (tr (∃ (j : Nat) (t : ByteArray), xs[j]? = some t ∧ 500 < t.size))) h := by
  obtain ⟨v0, h0, hA, r, ev, e0, hr⟩ := indexCh_spec h a n c xs hx hn
  rw [e0, ev] at hA
  refine acall_out (acall_vc (fun _ => true) (fun _ => []) (fun _ => .none) mixed Try.func79 rfl rfl rfl (Nat.le_of_ble_eq_true rfl) (by refine vc_mp (by kernel_rfl : (True ∧ True ∧ True) = _) ?_; simp only [and_self]) ?_)
  refine vc_mp (by kernel_rfl : (∃ (x : Int), ∃ (h' : AHeap), ACall Try.prog (138 : Nat) [Value.slice a n c, Value.func (Fn.func (80 : FuncId)) (Array.mk []) (Array.mk [])] h (Value.int IntKind.i64 x) h' ∧ Value.bool (decide (x ≥ (0 : Int))) = Value.bool (tr (∃ (j : Nat), ∃ (t : ByteArray), xs[j]? = some t ∧ (500 : Nat) < ByteArray.size t)) ∧ h' = h) = _) ?_
  refine ⟨_, _, hA, congrArg _ ?_, rfl⟩
  by_cases e : 0 ≤ r
  · rw [decide_eq_true e]; exact tr_true (hr.1 e)
  · rw [decide_eq_false e]; exact tr_false fun H => e (hr.2 H)
theorem implChunksJoin (h : AHeap) (a : Option Addr) (n c : Nat) (xs : List Sh.str.T) (hx : Sl h Sh.str xs (.slice a n c)) (hn : n ≤ 1048576) (hs : (cat xs).size ≤ 140737488355328) :
    ACall Try.prog 17 [.slice a n c] h (.string (joinB xs)) h := by
  have en := hx.len
  refine acall_out (acall_vc (fun _ => false) (fun _ => []) (fun _ => .none) mixed Try.func17 rfl rfl rfl (Nat.le_of_ble_eq_true rfl) (by refine vc_mp (by kernel_rfl : (True ∧ (True ∧ (True ∧ True) ∧ True) ∧ True ∧ (True ∧ (True ∧ True) ∧ True) ∧ True ∧ True) = _) ?_; simp only [and_self]) ?_)
  refine vc_mp (by kernel_rfl : (bs (decide ((↑n : Int) > (400 : Int))) (Value.string (ByteArray.mk (Array.mk [])) = Value.string (joinB xs) ∧ h = h) (∃ (x : Bool), ∃ (h' : AHeap), ACall Try.prog (79 : Nat) [Value.slice a n c, Value.func (Fn.func (80 : Nat)) (Array.mk []) (Array.mk [])] h (Value.bool x) h' ∧ bs x (Value.string (ByteArray.mk (Array.mk [])) = Value.string (joinB xs) ∧ h' = h) (∃ (x : ByteArray), ∃ (h'_1 : AHeap), ACall Try.prog (81 : Nat) [Value.slice a n c, Value.string (ByteArray.mk (Array.mk []))] h' (Value.string x) h'_1 ∧ bs (decide ((↑(ByteArray.size x) : Int) > (20000 : Int))) (Value.string (ByteArray.mk (Array.mk [])) = Value.string (joinB xs) ∧ h'_1 = h) (Value.string x = Value.string (joinB xs) ∧ h'_1 = h)))) = _) ?_
  have cs := containsCh_spec h a n c xs hx (by omega)
  refine bs_d (fun e => ⟨congrArg _ (joinB_neg fun H => by have := H.1; omega).symm, rfl⟩) (fun e1 => ⟨_, _, cs, bs_of (fun e => ⟨congrArg _ (joinB_neg fun H => ?_).symm, rfl⟩) (fun e2 => ⟨_, _, join_spec h a n c xs hx (by omega) hs, bs_d (fun e => ⟨congrArg _ (joinB_neg fun H => by have := H.2.2; omega).symm, rfl⟩) (fun e3 => ⟨congrArg _ (joinB_pos ⟨by omega, fun j t hj ht => of_trn e2 ⟨j, t, hj, ht⟩, by omega⟩).symm, rfl⟩)⟩)⟩)
  obtain ⟨j, t, hj, ht⟩ := of_tr e
  exact H.2.1 j t hj ht
def scL (xs : List Sh.str.T) (a : Option Addr) (n c : Nat) (h : AHeap) : LSpec where
  ι := Nat × Option Addr × Nat × AHeap
  κ := Option Addr × Nat × AHeap
  I := fun i => i.1 ≤ n ∧ (∀ (j : Nat) (t : ByteArray), j < i.1 → xs[j]? = some t → ¬ 500 < t.size) ∧ BInv h i.2.2.2 i.2.1 (cat (xs.take i.1)).size i.2.2.1 (cat (xs.take i.1))
  μ := fun i => n - i.1
  head := fun i => ⟨[(0, .slice a n c), (3, .slice i.2.1 (cat (xs.take i.1)).size i.2.2.1), (4, .int .i64 i.1)], [], i.2.2.2⟩
  post := fun j => ⟨[(3, .slice j.1 (cat xs).size j.2.1)], [], j.2.2⟩
  R := fun _ j => (∀ (j : Nat) (t : ByteArray), xs[j]? = some t → ¬ 500 < t.size) ∧ BInv h j.2.2 j.1 (cat xs).size j.2.1 (cat xs)
  ret := fun _ v h' => v = .string ⟨#[]⟩ ∧ h.Le h' ∧ h'.wf ∧ ¬ Chs xs
theorem specChunksJoin (h : AHeap) (hw : h.wf) (a : Option Addr) (n c : Nat) (xs : List Sh.str.T) (hx : Sl h Sh.str xs (.slice a n c)) (hn : n ≤ 1048576) (hs : (cat xs).size ≤ 140737488355328) :
    ∃ v h', ACall Try.prog 18 [.slice a n c] h v h' ∧ h.Le h' ∧ h'.wf ∧ v = .string (joinB xs) := by
  have en := hx.len
  refine acall_q fun Q HQ => ?_
  refine acall_vc (fun _ => true) (fun _ => []) (fun _ => scL xs a n c h) mixed Try.func18 rfl rfl rfl (Nat.le_of_ble_eq_true rfl) ?_ ?_
  · refine vc_mp (by kernel_rfl : (True ∧ True ∧ (True ∧ (True ∧ True) ∧ True) ∧ (True ∧ (∀ (i : Nat × Option Addr × Nat × AHeap), Prod.fst i ≤ n ∧ (∀ (j : Nat) (t : ByteArray), j < Prod.fst i → xs[j]? = some t → ¬(500 : Nat) < ByteArray.size t) ∧ BInv h (Prod.snd (Prod.snd (Prod.snd i))) (Prod.fst (Prod.snd i)) (ByteArray.size (cat (List.take (Prod.fst i) xs))) (Prod.fst (Prod.snd (Prod.snd i))) (cat (List.take (Prod.fst i) xs)) → bs (decide ((↑(Prod.fst i) : Int) < (↑n : Int))) (∃ (l : Nat), ∃ (r : Nat), a = some (Addr.mk l r (some (1 : Nat))) ∧ (0 : Int) ≤ (↑(Prod.fst i) : Int) ∧ (↑(Prod.fst i) : Int) < (↑n : Int) ∧ ∃ (x : ByteArray), AHeap.ld (Prod.snd (Prod.snd (Prod.snd i))) l (r + Int.toNat (↑(Prod.fst i) : Int)) (0 : Nat) (1 : Nat) = some [Value.string x] ∧ bs (decide ((↑(ByteArray.size x) : Int) > (500 : Int))) (Value.string (ByteArray.mk (Array.mk [])) = Value.string (ByteArray.mk (Array.mk [])) ∧ AHeap.Le h (Prod.snd (Prod.snd (Prod.snd i))) ∧ AHeap.wf (Prod.snd (Prod.snd (Prod.snd i))) ∧ ¬Chs xs) (∃ (l : Nat), ∃ (r : Nat), a = some (Addr.mk l r (some (1 : Nat))) ∧ (0 : Int) ≤ (↑(Prod.fst i) : Int) ∧ (↑(Prod.fst i) : Int) < (↑n : Int) ∧ ∃ (x : ByteArray), AHeap.ld (Prod.snd (Prod.snd (Prod.snd i))) l (r + Int.toNat (↑(Prod.fst i) : Int)) (0 : Nat) (1 : Nat) = some [Value.string x] ∧ ∃ (xs_1 : List (List Value)), rowsV (Prod.snd (Prod.snd (Prod.snd i))) (Value.string x) = some xs_1 ∧ (List.all xs_1 fun (row : List Value) => decide (List.length row = (1 : Nat)) && List.all row fun (v : Value) => match v with | Value.agg cells => false | Value.tuple cells => false | Value.complex k re im => false | Value.chan r => false | x => true) = true ∧ (ByteArray.size (cat (List.take (Prod.fst i) xs)) + List.length xs_1) * (1 : Nat) ≤ (140737488355328 : Nat) ∧ ∃ (a_2 : Option Addr), ∃ (n_1 : Nat), ∃ (c_1 : Nat), ∃ (h' : AHeap), AHeap.app (Prod.snd (Prod.snd (Prod.snd i))) (Value.slice (Prod.fst (Prod.snd i)) (ByteArray.size (cat (List.take (Prod.fst i) xs))) (Prod.fst (Prod.snd (Prod.snd i)))) xs_1 (1 : Nat) = some (Value.slice a_2 n_1 c_1, h') ∧ ∃ (j : Nat × Option Addr × Nat × AHeap), Value.slice a n c = Value.slice a n c ∧ Value.slice a_2 n_1 c_1 = Value.slice (Prod.fst (Prod.snd j)) (ByteArray.size (cat (List.take (Prod.fst j) xs))) (Prod.fst (Prod.snd (Prod.snd j))) ∧ Value.int IntKind.i64 (IntKind.wrap IntKind.i64 ((↑(Prod.fst i) : Int) + (1 : Int))) = Value.int IntKind.i64 (↑(Prod.fst j) : Int) ∧ Prod.snd (Prod.snd (Prod.snd j)) = h' ∧ (Prod.fst j ≤ n ∧ (∀ (j_1 : Nat) (t : ByteArray), j_1 < Prod.fst j → xs[j_1]? = some t → ¬(500 : Nat) < ByteArray.size t) ∧ BInv h (Prod.snd (Prod.snd (Prod.snd j))) (Prod.fst (Prod.snd j)) (ByteArray.size (cat (List.take (Prod.fst j) xs))) (Prod.fst (Prod.snd (Prod.snd j))) (cat (List.take (Prod.fst j) xs))) ∧ n - Prod.fst j < n - Prod.fst i ∧ (∀ (k : Option Addr × Nat × AHeap), (∀ (j : Nat) (t : ByteArray), xs[j]? = some t → ¬(500 : Nat) < ByteArray.size t) ∧ BInv h (Prod.snd (Prod.snd k)) (Prod.fst k) (ByteArray.size (cat xs)) (Prod.fst (Prod.snd k)) (cat xs) → (∀ (j : Nat) (t : ByteArray), xs[j]? = some t → ¬(500 : Nat) < ByteArray.size t) ∧ BInv h (Prod.snd (Prod.snd k)) (Prod.fst k) (ByteArray.size (cat xs)) (Prod.fst (Prod.snd k)) (cat xs)) ∧ ∀ (v : Value) (h_1 : AHeap), v = Value.string (ByteArray.mk (Array.mk [])) ∧ AHeap.Le h h_1 ∧ AHeap.wf h_1 ∧ ¬Chs xs → v = Value.string (ByteArray.mk (Array.mk [])) ∧ AHeap.Le h h_1 ∧ AHeap.wf h_1 ∧ ¬Chs xs)) (∃ (j : Option Addr × Nat × AHeap), Value.slice (Prod.fst (Prod.snd i)) (ByteArray.size (cat (List.take (Prod.fst i) xs))) (Prod.fst (Prod.snd (Prod.snd i))) = Value.slice (Prod.fst j) (ByteArray.size (cat xs)) (Prod.fst (Prod.snd j)) ∧ Prod.snd (Prod.snd j) = Prod.snd (Prod.snd (Prod.snd i)) ∧ (∀ (j : Nat) (t : ByteArray), xs[j]? = some t → ¬(500 : Nat) < ByteArray.size t) ∧ BInv h (Prod.snd (Prod.snd j)) (Prod.fst j) (ByteArray.size (cat xs)) (Prod.fst (Prod.snd j)) (cat xs))) ∧ (True ∧ True ∧ True) ∧ ((True ∧ (True ∧ True) ∧ True) ∧ True) ∧ True) ∧ (True ∧ (True ∧ True) ∧ True) ∧ True ∧ True) = _) ?_
    simp only [true_and, and_true]
    rintro ⟨i, a1, c1, g⟩ ⟨hi, hall, I⟩
    dsimp only at *
    refine bs_d (fun hlt => ?_) (fun hge => ?_)
    · have hio : i < xs.length := by omega
      obtain ⟨t, hat⟩ : ∃ y : ByteArray, xs[i]? = some y := ⟨_, List.getElem?_eq_getElem hio⟩
      obtain ⟨l, r, row, ha, _, hrd, hld⟩ := (hx.mono I.le).elem hat
      obtain rfl : row = [.string t] := hrd
      refine ⟨l, r, ha, Int.natCast_nonneg _, hlt, _, hld, bs_d (fun e => ⟨I.le, I.wf, fun H => H.2.1 i t hat (by omega)⟩) (fun e1 => ?_)⟩
      obtain ⟨a2, c2, g2, happ, I2⟩ := I.app t
      have ct := cat_take hat
      have le2 := cat_take_le (xs := xs) (i + 1)
      have sz2 : (cat (xs.take (i + 1))).size = (cat (xs.take i)).size + t.size := by rw [ct, ByteArray.size_append]
      rw [← ct, ← sz2] at I2
      refine ⟨l, r, ha, Int.natCast_nonneg _, hlt, _, hld, bytesRows t, rfl, rows_ok t, ?_, _, _, _, _, happ, (i + 1, a2, c2, g2), by dsimp only; rw [sz2], by rw [wrap_i64 (by omega)]; rfl, rfl, ⟨by dsimp only; omega, fun j t' hj hj2 => ?_, I2⟩, by dsimp only; omega, fun _ h => h, fun _ _ h => h⟩
      · rw [bytesRows_len]; omega
      · rcases Nat.lt_succ_iff_lt_or_eq.1 hj with hj | rfl
        · exact hall j t' hj hj2
        · rw [hat] at hj2; cases hj2; omega
    · have e : xs.take i = xs := List.take_of_length_le (by omega)
      rw [e] at I ⊢
      refine ⟨(a1, c1, g), rfl, rfl, fun j t hj => hall j t ?_ hj, I⟩
      have := (List.getElem?_eq_some_iff.1 hj).1
      omega
  refine vc_mp (by kernel_rfl : (bs (decide ((↑n : Int) > (400 : Int))) (Q (Value.string (ByteArray.mk (Array.mk []))) (AHeap.push h (AObj.mk [] (1 : Nat) true))) (∃ (i : Nat × Option Addr × Nat × AHeap), Value.slice a n c = Value.slice a n c ∧ Value.slice (some (Addr.mk (AHeap.n h) (0 : Nat) (some (1 : Nat)))) (0 : Nat) (1 : Nat) = Value.slice (Prod.fst (Prod.snd i)) (ByteArray.size (cat (List.take (Prod.fst i) xs))) (Prod.fst (Prod.snd (Prod.snd i))) ∧ Value.int IntKind.i64 (0 : Int) = Value.int IntKind.i64 (↑(Prod.fst i) : Int) ∧ Prod.snd (Prod.snd (Prod.snd i)) = AHeap.push h (AObj.mk [] (1 : Nat) true) ∧ (Prod.fst i ≤ n ∧ (∀ (j : Nat) (t : ByteArray), j < Prod.fst i → xs[j]? = some t → ¬(500 : Nat) < ByteArray.size t) ∧ BInv h (Prod.snd (Prod.snd (Prod.snd i))) (Prod.fst (Prod.snd i)) (ByteArray.size (cat (List.take (Prod.fst i) xs))) (Prod.fst (Prod.snd (Prod.snd i))) (cat (List.take (Prod.fst i) xs))) ∧ (∀ (j : Option Addr × Nat × AHeap), (∀ (j : Nat) (t : ByteArray), xs[j]? = some t → ¬(500 : Nat) < ByteArray.size t) ∧ BInv h (Prod.snd (Prod.snd j)) (Prod.fst j) (ByteArray.size (cat xs)) (Prod.fst (Prod.snd j)) (cat xs) → bs (decide ((↑(ByteArray.size (cat xs)) : Int) > (20000 : Int))) (Q (Value.string (ByteArray.mk (Array.mk []))) (Prod.snd (Prod.snd j))) (∃ (s : ByteArray), AHeap.rowsOf (Prod.snd (Prod.snd j)) (Value.slice (Prod.fst j) (ByteArray.size (cat xs)) (Prod.fst (Prod.snd j))) = some (bytesRows s) ∧ Q (Value.string s) (Prod.snd (Prod.snd j)))) ∧ ∀ (v : Value) (h_1 : AHeap), v = Value.string (ByteArray.mk (Array.mk [])) ∧ AHeap.Le h h_1 ∧ AHeap.wf h_1 ∧ ¬Chs xs → Q v h_1)) = _) ?_
  have I0 : BInv h (h.push ⟨[], 1, true⟩) (some ⟨h.n, 0, some 1⟩) (cat (xs.take 0)).size 1 (cat (xs.take 0)) := ⟨.push hw _, hw.push _, hw, rfl, .inr ⟨h.n, rfl, Nat.le_refl _, AHeap.get_push_eq, .inr rfl⟩⟩
  refine bs_d (fun e => HQ _ _ ⟨.push hw _, hw.push _, congrArg _ (joinB_neg fun H => by have := H.1; omega).symm⟩) (fun e1 => ?_)
  refine ⟨(0, _, _, _), rfl, rfl, rfl, rfl, ⟨Nat.zero_le _, fun j _ hj => absurd hj (Nat.not_lt_zero _), I0⟩, fun ⟨a1, c1, g⟩ ⟨hall, I⟩ => ?_, fun v h1 ⟨e1, le, wf, hn⟩ => HQ _ _ ⟨le, wf, e1.trans (congrArg _ (joinB_neg hn).symm)⟩⟩
  refine bs_d (fun e => HQ _ _ ⟨I.le, I.wf, congrArg _ (joinB_neg fun H => by have := H.2.2; omega).symm⟩) (fun e2 => ⟨cat xs, I.rows, HQ _ _ ⟨I.le, I.wf, congrArg _ (joinB_pos ⟨by omega, hall, by omega⟩).symm⟩⟩)
end Go.Proofs.Ytanienlcebkijaa
end
