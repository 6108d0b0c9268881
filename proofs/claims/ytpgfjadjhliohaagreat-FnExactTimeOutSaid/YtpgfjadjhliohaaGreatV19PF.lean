/- PF. -/
import Derived.Test.YtpgfjadjhliohaaGreatV19PE
namespace Go.Dat
open Go.Abs
theorem lstN_full {cg : List changeSh.T} {v : Int} {i : Nat} (h : (lstN cg v i).length = 3) : ∀ k, lstN cg v (i + k) = lstN cg v i
  | 0 => rfl
  | k + 1 => by
    show lstN cg v ((i + k) + 1) = _
    rw [lstN, lstN_full h k]
    split
    · rw [if_neg (by omega)]
    · rfl
theorem chg_one {h0 h : AHeap} {a : Option Addr} {c : Nat} {f v : Int} {ps : List proofSh.T} {ids : List Nat} (B : SoB changeSh h0 h a 1 c [(f, v, ps)] ids) :
    ∃ a' c' js, rowsV h (.slice a 1 c) = some [[.int .i64 f, .int .i64 v, .slice a' ps.length c']] ∧ Sn h proofSh ps (.slice a' ps.length c') js ∧ Fresh h0.n h.n js := by
  obtain ⟨_, e, _, _⟩ | ⟨l, rows, idss, rfl, hg, hr, hi, rfl, hc, hx⟩ := B.at_
  · cases e
  · match rows, idss, hr, hi, hg, hx, B with
    | [row], [js], _, _, hg, hx, B =>
      have r := hx 0 (f, v, ps) row js rfl rfl rfl
      obtain ⟨c1, c2, i1, i2, rfl, rfl, ⟨rfl, rfl⟩, c3, c4, i3, i4, rfl, rfl, ⟨rfl, rfl⟩, r3⟩ := r
      obtain ⟨w, rfl, s⟩ := rn_sl.1 r3
      obtain ⟨a', n', c', rfl, hl, hs⟩ := s
      dsimp only at hl
      subst hl
      refine ⟨a', c', _, ?_, ⟨a', _, c', rfl, rfl, hs⟩, (List.nodup_cons.1 B.fr.nd).2 |> fun h => by simpa using h, fun z hz => B.fr.bd z (by simp; exact .inr hz)⟩
      show h.rowsOf (.slice (some ⟨l, 0, some changeSh.cells⟩) 1 c) = some [[.int .i64 f, .int .i64 v, .slice a' ps.length c']]
      rw [get_rows hg (by simp)]; rfl
theorem WkOk.chgApp {n0 l : Nat} {g0 g : AHeap} {w : Wk} (W : WkOk n0 l g0 w) (le : g0.Le g) (wg : g.wf) {f v : Int} {ps : List proofSh.T} {a : Option Addr} {c : Nat} {js : List Nat} (sn : Sn g proofSh ps (.slice a ps.length c) js) (fj : Fresh g0.n g.n js) :
    ∃ (C' : LX changeSh.T) (g2 : AHeap), C'.xs = w.changes.xs ++ [(f, v, ps)] ∧ g.app (.slice w.changes.a w.changes.xs.length w.changes.c) [[.int .i64 f, .int .i64 v, .slice a ps.length c]] 3 = some (.slice C'.a C'.xs.length C'.c, g2) ∧
      g2.wr l 0 5 [.slice C'.a C'.xs.length C'.c] = some (g2.put l (some ⟨[({ w with changes := C' } : Wk).row], 14, true⟩)) ∧ WkOk n0 l (g2.put l (some ⟨[({ w with changes := C' } : Wk).row], 14, true⟩)) { w with changes := C' } ∧ Mv l w { w with changes := C' } g0 (g2.put l (some ⟨[({ w with changes := C' } : Wk).row], 14, true⟩)) := by
  have W3 := W.grow le wg
  obtain ⟨l2, g2, ids2, e6, B2, k2, w2, hi⟩ := SoB.app' (x := (f, v, ps)) W3.C (rn_chg sn) (fj.widen W.n (Nat.le_refl _)) (fun z hz hj => by have h1 := (W.C.fr.bd z hz).2; have h2 := (fj.bd z hj).1; omega)
  have el : ((show List changeSh.T from w.changes.xs) ++ [(f, v, ps)]).length = w.changes.xs.length + 1 := by simp
  rw [← el] at e6 B2
  have kp : Kp w.changes.ids g0 g2 := (Kp.of_le le).trans k2
  have hi' : ∀ z ∈ ids2, g0.n ≤ z ∨ z ∈ w.changes.ids := fun z hz => by
    rcases hi z hz with h | h | h
    · left; rw [h]; exact le.n
    · exact .inr h
    · exact .inl (fj.bd z h).1
  have WS := W.setC ⟨some ⟨l2, 0, some 3⟩, 0, (show List changeSh.T from w.changes.xs) ++ [(f, v, ps)], ids2⟩ B2 kp hi'
  exact ⟨⟨some ⟨l2, 0, some 3⟩, 0, (show List changeSh.T from w.changes.xs) ++ [(f, v, ps)], ids2⟩, g2, rfl, e6, wk_wr (W.get (k := 2) rfl (by decide) kp) rfl (by simp), WS, Mv.setC ⟨some ⟨l2, 0, some 3⟩, 0, (show List changeSh.T from w.changes.xs) ++ [(f, v, ps)], ids2⟩ kp hi' _⟩
end Go.Dat
namespace Go.Proofs.YtpgfjadjhliohaaGreat
open Go.Abs Go.Dat
set_option maxRecDepth 100000
set_option maxHeartbeats 8000000
def hcL (n0 l : Nat) (id v : Int) (lo : List Value) (b : Bool) : LSpec where
  ι := Nat × OX changeSh.T × Wk × AHeap
  κ := OX changeSh.T × Wk × AHeap
  I := fun i => i.1 ≤ 4 ∧ WkOk n0 l i.2.2.2 i.2.2.1 ∧ OXok changeSh i.2.2.2 i.2.1 ∧ i.2.1.xs = lstN i.2.2.1.changes.xs v i.1 ∧ i.2.2.1.changes.xs.length ≤ 40 ∧ (∀ c ∈ i.2.2.1.changes.xs, changeSh.small c) ∧ i.2.2.1.id = id
  μ := fun i => 4 - i.1
  head := fun i => ⟨[(0, .pointer (some ⟨l, 0, some 0⟩)), (3, .complex .f32 0 0), (5, .slice i.2.1.a i.2.1.xs.length i.2.1.c), (bif b then 46 else 6, .int .i64 i.1)], [lo], i.2.1.g⟩
  post := fun j => ⟨[(0, .pointer (some ⟨l, 0, some 0⟩)), (3, .complex .f32 0 0), (5, .slice j.1.a j.1.xs.length j.1.c)], [lo], j.1.g⟩
  R := fun i j => j.2 = i.2.2 ∧ OXok changeSh j.2.2 j.1 ∧ j.1.xs = lstN j.2.1.changes.xs v 4
  ret := fun _ _ _ => False
abbrev Qyb := OX (Sh.T changeSh) × Wk × AHeap
abbrev Qyc := Nat × OX (Sh.T changeSh) × Wk × AHeap
def Qxa (a b c : Prop) := a ∧ b ∧ c
def Qxb (a : Prop) := Qxa True a True
def Qxc (a : Wk × AHeap) := LX.xs (Wk.changes (Prod.fst a))
def Qxd (a : Qyb) (b : Int) := OX.xs (Prod.fst a) = lstN (Qxc (Prod.snd a)) b 4
def Qxe (a : Qyb) := OXok changeSh (Prod.snd (Prod.snd a)) (Prod.fst a)
def Qxf (a : Qyc) := Prod.snd (Prod.snd a)
def Qxg (a : Qyc) := Prod.fst (Prod.snd a)
def Qxh (a : Qyc) := OX.g (Qxg a)
def Qxi (a : Qyb) := OX.g (Prod.fst a)
def Qxj (a : Int) := Value.int IntKind.i64 a
def Qxk (a b : Int) (c : Option Addr) (d : List (Sh.T proofSh)) (e : Nat) := [Qxj a, Qxj b, Value.slice c (List.length d) e]
def Qxl (a b : Int) (c : Option Addr) (d : List (Sh.T proofSh)) (e : Nat) := Qxk a b c d e = Qxk a b c d e
def Qxm (a : Qyb) := Value.slice (OX.a (Prod.fst a)) (List.length (OX.xs (Prod.fst a))) (OX.c (Prod.fst a))
def Qxn (a : Qyc) := Value.slice (OX.a (Qxg a)) (List.length (OX.xs (Qxg a))) (OX.c (Qxg a))
def Qxo := (0 : Nat)
def Qxp := Value.complex FloatKind.f32 Qxo Qxo
def Qxq (a : Nat) := Value.pointer (some (Addr.mk a Qxo (some Qxo)))
def Qxr (a : AHeap) (b : Nat) (c : Option Addr) (d e : Nat) (f : Prop) := AHeap.ld a b Qxo 5 1 = some [Value.slice c d e] ∧ f
def Qxs (a : Prop) (b c : Nat) (d : Qyc) (e f g h : Prop) := Qxa a (WkOk b c (Prod.snd (Qxf d)) (Prod.fst (Qxf d))) (Qxa (OXok changeSh (Prod.snd (Qxf d)) (Qxg d)) e (Qxa f g h))
def Qxt (a : Qyc) := List.length (Qxc (Qxf a)) ≤ 40
def Qxu (a : Qyc) (b : Int) := OX.xs (Qxg a) = lstN (Qxc (Qxf a)) b (Prod.fst a)
def Qxv (a : Qyc) := (↑(Prod.fst a) : Int)
def Qxw (a : Nat) (b : Prop) (c : Value) (d : Qyc) (e f : Prop) (g : Nat) (h : Int) (i : Prop) (j : Wk) (k l : Prop) := Qxa (Qxq a = Qxq a) (Qxp = Qxp) (Qxa b (c = Qxj (Qxv d)) (Qxa e f (Qxa (Qxs (Prod.fst d ≤ 4) g a d (Qxu d h) (Qxt d) i (Wk.id (Prod.fst (Qxf d)) = Wk.id j)) k l)))
def Qxx (a : Qyb) (b : Qyc) (c : Int) := Qxa (Prod.snd a = Qxf b) (Qxe a) (Qxd a c)
def Qxy (a : Qyc) := 4 - Prod.fst a
def Qxz (a : Qyc) (b : Sh.T changeSh) := Membership.mem (Qxc (Qxf a)) b → Sh.small changeSh b
def Qy0 (a : AHeap) (b : List (List Value)) := AHeap.push a (AObj.mk b 3 true)
def Qy1 (a b : Int) (c : Option Addr) (d e : Nat) := [Qxj a, Qxj b, Value.slice c d e]
def Qy2 (a : List (List Value)) := List.all a (fun (row : List Value) =>
  decide (List.length row = (3 : Nat)) &&
    List.all row fun (v : Value) =>
      match v with
      | Value.agg cells => false
      | Value.tuple cells => false
      | Value.complex k re im => false
      | Value.chan r => false
      | x => true)
def Qy3 (a : FuncId) (b : List Value) (c : AHeap) (d : Value) (e : AHeap) := ACall Tryz.prog a b c d e
def Qy4 (a : List Value) := Value.agg (Array.mk a)
def Qy5 := Qxj 0
def Qy6 (a : FuncId) (b : List Value) (c d : AHeap) := Qy3 a b c (Value.tuple (Array.mk List.nil)) d
def Qy7 (a b : Int) (c : Qyb) := Qy4 [Qxj 5, Qxj a, Qxj b, Qxj (Int.ofNat Qxo), Value.string (ByteArray.mk (Array.mk List.nil)), Qxm c]
def Qy8 (a : AHeap) (b : Nat) := AHeap.ld a b Qxo Qxo 1
def Qy9 (a : AHeap) (b : Nat) (c d : Int) := Qy8 a b = some [Qxj c] ∧ Qxj c = Qxj d
def Qya (a : Qyb) := (↑(List.length (OX.xs (Prod.fst a))) : Int)
theorem iChange_spec {n0 l m : Nat} {g : AHeap} {w : Wk} (W : WkOk n0 l g w) (R : ROk 1000 m (w.rep, w.says.xs)) (hm : m ≤ 800) (f v : Int) (ps : List proofSh.T) (a : Option Addr) (c : Nat) (hc : CgW (f, v, ps)) (hv : InR 0 7 v) (hx : ∀ g', Kp (w.all l) g g' → Sl g' proofSh ps (.slice a ps.length c)) :
    ∃ r g', ACall Tryz.prog 127 [.pointer (some ⟨l, 0, some 0⟩), .agg #[.int .i64 f, .int .i64 v, .slice a ps.length c]] g r g' ∧ ∃ w', WkOk n0 l g' w' ∧ Mv l w w' g g' ∧ ((∃ e, chgR (w.rep, w.says.xs) (f, v, ps) = .inl e ∧ r = .int .i64 e ∧ ¬ e = 0) ∨ (chgR (w.rep, w.says.xs) (f, v, ps) = .inr (w'.rep, w'.says.xs) ∧ r = .int .i64 0)) := by
  have nc : w.changes.xs.length ≤ 40 := R.ncg
  have hid : InR 0 3 w.id := R.id
  have hs : w.says.xs.length ≤ m := R.vs.n
  have smp : (Sh.sl proofSh).small ps := hc.2.2.2.1.2.2
  obtain ⟨_, g1, A1, le1, w1, i1, rfl, hi1⟩ := changeIndex_spec g W.wf w.changes.a w.changes.c w.changes.xs f v a ps.length c W.C.sn.so.sl (Nat.le_trans nc (by decide))
  refine acall_q fun Q HQ => ?_
  refine acall_vc (fun _ => false) (fun r => match r with | 1 => [(0, 0, []), (1, 0, []), (2, 0, []), (3, 0, []), (4, 1, []), (5, 1, []), (6, 3, []), (7, 0, [])] | 4 => [(0, 0, []), (1, 0, []), (2, 0, []), (3, 0, []), (4, 0, []), (5, 1, []), (6, 1, []), (7, 3, [5]), (8, 3, [5]), (9, 3, []), (10, 0, []), (11, 0, []), (12, 0, []), (13, 3, [])] | 5 => [(0, 0, []), (1, 0, []), (2, 0, []), (3, 0, []), (5, 0, []), (4, 1, []), (6, 1, []), (7, 3, [4]), (8, 0, [])] | 11 => [(0, 0, []), (1, 0, []), (2, 0, []), (3, 0, []), (5, 0, []), (6, 0, []), (4, 1, []), (7, 1, []), (8, 0, []), (9, 3, []), (10, 0, [])] | 16 => [(0, 0, []), (1, 0, []), (2, 0, []), (3, 0, []), (5, 0, []), (7, 0, []), (4, 1, []), (6, 1, []), (8, 0, []), (9, 3, [4, 6]), (10, 3, [])] | _ => []) (fun _ => hcL n0 l w.id v [.int .i64 f, .int .i64 v, .slice a ps.length c] true) mixed Tryz.func127 rfl rfl rfl (Nat.le_of_ble_eq_true rfl) ?_ ?_
  · (refine vc_mp (by kernel_rfl : (Qxa True (Qxb (Qxb (True ∧ True) ∧ True)) (Qxa (Qxb (True ∧ True)) True (Qxa (Qxa True (∀ (i : Nat × OX (Sh.T changeSh) × Wk × AHeap), Qxs (Prod.fst i ≤ 4) n0 l i (Qxu i v) (Qxt i) (∀ (c : Sh.T changeSh), Qxz i c) (Wk.id (Prod.fst (Qxf i)) = Wk.id w) → bs (decide (Qxv i < 4)) (∃ (a_2 : Option Addr) (n c_1 : Nat), Qxr (Qxh i) l a_2 n c_1 (∃ (x : Int) (h' : AHeap), Qy3 93 [Value.slice a_2 n c_1, Qy4 (Qy1 (Qxv i) v none Qxo Qxo)] (Qxh i) (Qxj x) h' ∧ bs (decide (x ≥ 0)) (bs (decide ((↑(List.length (OX.xs (Qxg i))) : Int) < 3)) (∃ (a_3 : Option Addr) (n c_2 : Nat), Qxr h' l a_3 n c_2 (∃ (l_1 r : Nat), Qxa (a_3 = some (Addr.mk l_1 r (some 3))) (0 ≤ x) (x < (↑n : Int) ∧ (∃ (x_1 x_2 : Int) (a_4 : Option Addr) (n c_3 : Nat), AHeap.ld h' l_1 (r + Int.toNat x) Qxo 3 = some (Qy1 x_1 x_2 a_4 n c_3) ∧ (∃ (x x_3 : Int) (a_5 : Option Addr) (n_1 c_4 : Nat) (h'_1 : AHeap), Qy3 155 [Qy4 (Qy1 x_1 x_2 a_4 n c_3)] h' (Qy4 (Qy1 x x_3 a_5 n_1 c_4)) h'_1 ∧ (∃ (xs : List (List Value)), Qxa (rowsV (Qy0 h'_1 [Qy1 x x_3 a_5 n_1 c_4]) (Value.slice (some (Addr.mk (AHeap.n h'_1) Qxo (some 3))) 1 2) = some xs) (Qy2 xs = true) ((List.length (OX.xs (Qxg i)) + List.length xs) * 40 ≤ 140737488355328 ∧ (∃ (a_6 : Option Addr) (n c_5 : Nat) (h' : AHeap), AHeap.app (Qy0 h'_1 [Qy1 x x_3 a_5 n_1 c_4]) (Qxn i) xs 3 = some (Prod.mk (Value.slice a_6 n c_5) h') ∧ (∃ (j : Nat × OX (Sh.T changeSh) × Wk × AHeap), Qxw l (Value.slice a_6 n c_5 = Qxn j) (Qxj (IntKind.wrap IntKind.i64 (Qxv i + 1))) j (Qxl f v a ps c) (Qxh j = h') n0 v (∀ (c : Sh.T changeSh), Qxz j c) w (Qxy j < Qxy i) ((∀ (k : OX (Sh.T changeSh) × Wk × AHeap), Qxx k j v → Qxx k i v) ∧ (∀ (v : Value) (h : AHeap), False → False))))))))))) (∃ (j : Nat × OX (Sh.T changeSh) × Wk × AHeap), Qxw l (Qxn i = Qxn j) (Qxj (IntKind.wrap IntKind.i64 (Qxv i + 1))) j (Qxl f v a ps c) (Qxh j = h') n0 v (∀ (c : Sh.T changeSh), Qxz j c) w (Qxy j < Qxy i) ((∀ (k : OX (Sh.T changeSh) × Wk × AHeap), Qxx k j v → Qxx k i v) ∧ (∀ (v : Value) (h : AHeap), False → False)))) (∃ (j : Nat × OX (Sh.T changeSh) × Wk × AHeap), Qxw l (Qxn i = Qxn j) (Qxj (IntKind.wrap IntKind.i64 (Qxv i + 1))) j (Qxl f v a ps c) (Qxh j = h') n0 v (∀ (c : Sh.T changeSh), Qxz j c) w (Qxy j < Qxy i) ((∀ (k : OX (Sh.T changeSh) × Wk × AHeap), Qxx k j v → Qxx k i v) ∧ (∀ (v : Value) (h : AHeap), False → False))))) (∃ (j : OX (Sh.T changeSh) × Wk × AHeap), Qxa (Qxq l = Qxq l) (Qxp = Qxp) (Qxa (Qxn i = Qxm j) (Qxl f v a ps c) (Qxa (Qxi j = Qxh i) (Prod.snd j = Qxf i) (Qxe j ∧ Qxd j v))))) (Qxa True (True ∧ True) (Qxa True True (Qxa True True True) ∧ True))) (Qxb (Qxb True)) (True ∧ True)))) = _) ?_; delta Qxa Qxb Qxc Qxd Qxe Qxf Qxg Qxh Qxi Qxj Qxk Qxl Qxm Qxn Qxo Qxp Qxq Qxr Qxs Qxt Qxu Qxv Qxw Qxx Qxy Qxz Qy0 Qy1 Qy2 Qy3 Qy4)
    simp only [true_and, and_true]
    refine fun ⟨i, o, w1, g1⟩ ⟨hi, W1, B, ho, nc, hsm, eid⟩ => ?_
    dsimp only at *
    have lo3 : o.xs.length ≤ 3 := by rw [ho]; exact lstN_len _ _ _
    refine bs_d (fun hlt => ?_) (fun hge => ⟨(o, w1, g1), rfl, rfl, rfl, B, by rw [ho, show i = 4 by omega]⟩)
    have W2 := W1.grow B.le B.wf
    obtain ⟨_, g2, A2, le2, w2, ix, rfl, hix⟩ := changeIndex_spec o.g B.wf w1.changes.a w1.changes.c w1.changes.xs i v none 0 0 W2.C.sn.so.sl (Nat.le_trans nc (by decide))
    have W3 := W2.grow le2 w2
    refine ⟨_, _, _, W2.ld (i := 5) (n := 1) rfl (by decide), _, _, A2, ?_⟩
    rcases idx_chF hix with ⟨hneg, hf, _⟩ | ⟨mm, ⟨xf, xv, xp⟩, rfl, hat, hf, _⟩
    · refine bs_d (fun e => absurd e (by omega)) (fun _ => ⟨(i + 1, ⟨o.a, o.c, o.xs, o.ids, g2⟩, w1, g1), rfl, by rw [wrap_i64 (by omega)]; rfl, rfl, ⟨by dsimp only; omega, W1, B.grow le2 w2, by dsimp only; rw [lstN, hf]; exact ho, nc, hsm, eid⟩, by dsimp only; omega, fun _ h => h, fun _ _ h => h⟩)
    · refine bs_d (fun _ => bs_d (fun hl3 => ?_) (fun hl3 => ?_)) (fun e => absurd (Int.natCast_nonneg mm) e)
      · obtain ⟨lo, r, row, ha, hmm, hrd, hld⟩ := W3.C.sn.so.sl.elem hat
        obtain ⟨v1, rfl, s1⟩ := rd_change.1 hrd
        obtain ⟨a3, c3, rfl⟩ := s1.isSlice
        dsimp only at hld s1
        obtain ⟨_, g4, A4, le4, w4, a5, c5, js, rfl, S5, F5⟩ := cloneChg_spec g2 w2 xf xv xp a3 c3 s1 (hsm _ (List.mem_of_getElem? hat)).2.2
        obtain ⟨o', e6, B', hx', _, _, _⟩ := (B.grow (le2.trans le4) w4).app (x := (xf, xv, xp)) (rn_chg S5) (F5.widen (Nat.le_trans B.le.n le2.n) (Nat.le_refl _)) (fun z hz hm => by have h1 := (B.fr.bd z hz).2; have h2 := (F5.bd z hm).1; have h3 := le2.n; omega)
        refine ⟨_, _, _, W3.ld (i := 5) (n := 1) rfl (by decide), lo, r, ha, Int.natCast_nonneg mm, by omega, _, _, _, _, _, hld, _, _, _, _, _, _, A4, _, rowsV_push, rfl, by simp only [List.length_cons, List.length_nil]; omega, _, _, _, o'.g, e6, (i + 1, o', w1, g1), rfl, by rw [wrap_i64 (by omega)]; rfl, rfl, ⟨by dsimp only; omega, W1, B', ?_, nc, hsm, eid⟩, by dsimp only; omega, fun _ h => h, fun _ _ h => h⟩
        dsimp only
        rw [lstN, hf]
        dsimp only
        rw [if_pos (by rw [← ho]; omega), ← ho]; exact hx'
      · refine ⟨(i + 1, ⟨o.a, o.c, o.xs, o.ids, g2⟩, w1, g1), rfl, by rw [wrap_i64 (by omega)]; rfl, rfl, ⟨by dsimp only; omega, W1, B.grow le2 w2, ?_, nc, hsm, eid⟩, by dsimp only; omega, fun _ h => h, fun _ _ h => h⟩
        dsimp only
        rw [lstN, hf]
        dsimp only
        rw [if_neg (by rw [← ho]; omega)]; exact ho
  have tl : ∀ (ww : Wk) (gg : AHeap), WkOk n0 l gg ww → Mv l w ww g gg → cgM w.changes.xs (f, v, ps) = some ww.changes.xs → ww.rep = setC w.rep ww.changes.xs → ww.says.xs = w.says.xs →
      (¬ ww.id = v % 4 → Q (.int .i64 0) gg) ∧ (∀ (o : OX changeSh.T), OXok changeSh gg o → o.xs = lstN ww.changes.xs v 4 → ww.id = v % 4 → (¬ o.xs.length = 3 → Q (.int .i64 0) o.g) ∧ (o.xs.length = 3 → ∃ g5 g6, ACall Tryz.prog 113 [.pointer (some ⟨l, 0, some 0⟩), .agg #[.int .i64 5, .int .i64 ww.id, .int .i64 v, .int .i64 0, .string ⟨#[]⟩, .slice o.a o.xs.length o.c]] o.g (.tuple #[]) g5 ∧ ACall Tryz.prog 128 [.pointer (some ⟨l, 0, some 0⟩), .agg #[.int .i64 5, .int .i64 ww.id, .int .i64 v, .int .i64 0, .string ⟨#[]⟩, .slice o.a o.xs.length o.c]] g5 (.tuple #[]) g6 ∧ Q (.int .i64 0) g6)) ∧ ww.changes.xs.length ≤ 40 ∧ ∀ c ∈ ww.changes.xs, changeSh.small c := by
    intro ww gg W1 M1 eC er es
    have R1 : ROk 1000 m (ww.rep, ww.says.xs) := by
      rw [er, es]
      exact R.setC (cgM_ok eC R.ncg R.cgs hc).1 (cgM_ok eC R.ncg R.cgs hc).2
    have hidw : InR 0 3 ww.id := R1.id
    have eid : ww.id = w.id := congrArg (fun r : replicaSh.T => r.1) er
    have no : ¬ ((show Int from v) % 4 = w.id ∧ (lstN ww.changes.xs v 4).length = 3) → chgR (w.rep, w.says.xs) (f, v, ps) = .inr (ww.rep, ww.says.xs) := fun h => by
      unfold chgR
      rw [show cgM (w.rep, w.says.xs).1.2.2.2.2.2.1 (f, v, ps) = some ww.changes.xs from eC]
      dsimp only
      rw [er, es]
      exact if_neg h
    refine ⟨fun hne => HQ _ _ ⟨ww, W1, M1, .inr ⟨no fun h => hne (by rw [eid]; exact h.1.symm), rfl⟩⟩, fun o B eo heq => ⟨fun h3 => HQ _ _ ⟨ww, W1.grow B.le B.wf, M1.trans W.wf (.of_le B.le), .inr ⟨no fun h => h3 (by rw [eo]; exact h.2), rfl⟩⟩, fun h3 => ?_⟩, R1.ncg, fun c h => (R1.cgs c h).2.2.2.1⟩
    have W2 := W1.grow B.le B.wf
    have Hc : ∀ c ∈ o.xs, CgW c := fun c h => by rw [eo] at h; exact R1.cgs c (lstN_mem h).1
    have sm : (Sh.sl changeSh).small o.xs := ⟨by omega, fun c h => (Hc c h).2.2.2.1⟩
    obtain ⟨N, _⟩ := opn_ok (v := v) R1.cgs hidw hv
    rw [show lstN (ww.rep, ww.says.xs).1.2.2.2.2.2.1 v 4 = o.xs from eo.symm] at N
    obtain ⟨_, g5, A5, S', rfl, eS, W5, M5⟩ := iSend_spec W2 (by rw [es]; omega) 5 ww.id v 0 ⟨#[]⟩ o.xs o.a o.c B.sn.so.sl sm
    have St : Stay l ww o.g o.xs o.a o.c := fun g' kp => (B.sn.kp kp (fun z hz hj => by
      obtain ⟨b, hb, hzb⟩ := List.mem_flatten.1 hj
      have h1 := W1.lt b hb z hzb
      have h2 := (B.fr.bd z hz).1
      omega)).so.sl
    have K5 : VSk (m + 1) (ww.votes.xs, S'.xs) := by
      rw [eS, eo]
      exact (R1.say (opn_ok (v := v) R1.cgs hidw hv).2).vs
    obtain ⟨_, g6, A6, rfl, w', W6, M6, e6⟩ := iEnter_spec W5 K5 (by omega) hidw 5 ww.id v 0 ⟨#[]⟩ o.xs o.a o.c (St.mv B.wf M5) N (by omega) sm (fun c h => Nat.le_trans (Hc c h).2.2.2.2 (by decide))
    refine ⟨g5, g6, A5, A6, HQ _ _ ⟨w', W6, ((M1.trans W.wf (.of_le B.le)).trans W.wf M5).trans W.wf M6, .inr ⟨?_, rfl⟩⟩⟩
    unfold chgR
    rw [show cgM (w.rep, w.says.xs).1.2.2.2.2.2.1 (f, v, ps) = some ww.changes.xs from eC]
    dsimp only
    rw [if_pos ⟨by rw [← heq, eid]; rfl, by rw [← eo]; exact h3⟩, e6, eS, ← er, ← es, eo, show w.rep.1 = ww.id from eid.symm]
    rfl
  (refine vc_mp (by kernel_rfl : (∃ (a_1 : Option Addr) (n c_1 : Nat), Qxr g l a_1 n c_1 (∃ (x : Int) (h' : AHeap), Qy3 93 [Value.slice a_1 n c_1, Qy4 (Qxk f v a ps c)] g (Qxj x) h' ∧ bs (decide (x < 0)) (∃ (a_2 : Option Addr) (n c_2 : Nat), Qxr h' l a_2 n c_2 (bs (decide ((↑n : Int) = 40)) (Q (Qxj 9) h') (∃ (a_3 : Option Addr) (n c_3 : Nat), Qxr h' l a_3 n c_3 (∃ (x x_1 : Int) (a_4 : Option Addr) (n_1 c_4 : Nat) (h'_1 : AHeap), Qxa (Qy3 155 [Qy4 (Qxk f v a ps c)] h' (Qy4 (Qy1 x x_1 a_4 n_1 c_4)) h'_1) (∃ (a : Option Addr) (n_2 c : Nat), Qxr h'_1 l a n_2 c (Value.slice a n_2 c = Value.slice a_3 n c_3)) ((∃ (a : Option Addr) (n_2 c : Nat), Qxr (Qy0 h'_1 [Qy1 x x_1 a_4 n_1 c_4]) l a n_2 c (Value.slice a n_2 c = Value.slice a_3 n c_3)) ∧ (∃ (xs : List (List Value)), Qxa (rowsV (Qy0 h'_1 [Qy1 x x_1 a_4 n_1 c_4]) (Value.slice (some (Addr.mk (AHeap.n h'_1) Qxo (some 3))) 1 2) = some xs) (Qy2 xs = true) ((n + List.length xs) * 40 ≤ 140737488355328 ∧ (∃ (a_5 : Option Addr) (n_2 c_5 : Nat) (h' : AHeap), AHeap.app (Qy0 h'_1 [Qy1 x x_1 a_4 n_1 c_4]) (Value.slice a_3 n c_3) xs 3 = some (Prod.mk (Value.slice a_5 n_2 c_5) h') ∧ (∃ (h'_2 : AHeap), AHeap.wr h' l Qxo 5 [Value.slice a_5 n_2 c_5] = some h'_2 ∧ (∃ (x : Int), Qy8 h'_2 l = some [Qxj x] ∧ (∃ (x_2 : Int) (h' : AHeap), Qxa (Qy3 96 [Qxj v] h'_2 (Qxj x_2) h') (∃ (x_3 : Int), Qy9 h' l x_3 x) (bs (not (decide (x = x_2))) (Q Qy5 h') (∃ (i : Nat × OX (Sh.T changeSh) × Wk × AHeap), Qxw l (Value.slice none Qxo Qxo = Qxn i) Qy5 i (Qxl f v a ps c) (Qxh i = h') n0 v (∀ (c : Sh.T changeSh), Qxz i c) w (∀ (j : OX (Sh.T changeSh) × Wk × AHeap), Qxx j i v → bs (decide (Qya j = 3)) (∃ (x : Int), Qxa (Qy8 (Qxi j) l = some [Qxj x]) (Qxj v = Qxj v) ((∃ (x_3 : Int), Qy9 (Qxi j) l x_3 x) ∧ (∃ (h' : AHeap), Qy6 113 [Qxq l, Qy7 x v j] (Qxi j) h' ∧ (∃ (h'_3 : AHeap), Qy6 128 [Qxq l, Qy7 x v j] h' h'_3 ∧ Q Qy5 h'_3)))) (Q Qy5 (Qxi j))) (∀ (v : Value) (h : AHeap), False → Q v h)))))))))))))) (∃ (x : Int), Qy8 h' l = some [Qxj x] ∧ (∃ (x_1 : Int) (h'_1 : AHeap), Qxa (Qy3 96 [Qxj v] h' (Qxj x_1) h'_1) (∃ (x_2 : Int), Qy9 h'_1 l x_2 x) (bs (not (decide (x = x_1))) (Q Qy5 h'_1) (∃ (i : Nat × OX (Sh.T changeSh) × Wk × AHeap), Qxw l (Value.slice none Qxo Qxo = Qxn i) Qy5 i (Qxl f v a ps c) (Qxh i = h'_1) n0 v (∀ (c : Sh.T changeSh), Qxz i c) w (∀ (j : OX (Sh.T changeSh) × Wk × AHeap), Qxx j i v → bs (decide (Qya j = 3)) (∃ (x : Int), Qxa (Qy8 (Qxi j) l = some [Qxj x]) (Qxj v = Qxj v) ((∃ (x_2 : Int), Qy9 (Qxi j) l x_2 x) ∧ (∃ (h' : AHeap), Qy6 113 [Qxq l, Qy7 x v j] (Qxi j) h' ∧ (∃ (h'_2 : AHeap), Qy6 128 [Qxq l, Qy7 x v j] h' h'_2 ∧ Q Qy5 h'_2)))) (Q Qy5 (Qxi j))) (∀ (v : Value) (h : AHeap), False → Q v h))))))) = _) ?_; delta Qxa Qxc Qxd Qxe Qxf Qxg Qxh Qxi Qxj Qxk Qxl Qxm Qxn Qxo Qxp Qxq Qxr Qxs Qxt Qxu Qxv Qxw Qxx Qxz Qy0 Qy1 Qy2 Qy3 Qy4 Qy5 Qy6 Qy7 Qy8 Qy9 Qya)
  have Wg := W.grow le1 w1
  refine ⟨_, _, _, W.ld (i := 5) (n := 1) rfl (by decide), _, _, A1, ?_⟩
  rcases idx_chF hi1 with ⟨hneg, _, hno⟩ | ⟨mm, x, rfl, _, _, hyes⟩
  · refine bs_d (fun _ => ⟨_, _, _, Wg.ld (i := 5) (n := 1) rfl (by decide), bs_d (fun h40 => ?_) (fun h40 => ?_)⟩) (fun e => absurd hneg e)
    · refine HQ _ _ ⟨w, Wg, .of_le le1, .inl ⟨9, ?_, rfl, by decide⟩⟩
      have h40' : 40 ≤ w.changes.xs.length := by omega
      unfold chgR
      rw [show cgM (w.rep, w.says.xs).1.2.2.2.2.2.1 (f, v, ps) = none from (if_neg hno).trans (if_pos h40')]
    · obtain ⟨_, g2, A2, le2, w2, a5, c5, js, rfl, S5, F5⟩ := cloneChg_spec g1 w1 f v ps a c (hx g1 (.of_le le1)) smp
      have lp := AHeap.Le.push w2 ⟨[[.int .i64 f, .int .i64 v, .slice a5 ps.length c5]], 3, true⟩
      have wp := w2.push ⟨[[.int .i64 f, .int .i64 v, .slice a5 ps.length c5]], 3, true⟩
      obtain ⟨C', g3, eC, e6, e7, W3, M3⟩ := Wg.chgApp (f := f) (v := v) (le2.trans lp) wp (S5.le lp) (F5.widen (Nat.le_refl _) lp.n)
      refine ⟨_, _, _, Wg.ld (i := 5) (n := 1) rfl (by decide), _, _, _, _, _, _, A2, ⟨_, _, _, (Wg.grow le2 w2).ld (i := 5) (n := 1) rfl (by decide), rfl⟩, ⟨_, _, _, (Wg.grow (le2.trans lp) wp).ld (i := 5) (n := 1) rfl (by decide), rfl⟩, _, rowsV_push, rfl, by simp only [List.length_cons, List.length_nil]; omega, _, _, _, g3, e6, _, e7, ?_⟩
      have h40' : ¬ 40 ≤ w.changes.xs.length := by omega
      obtain ⟨t1, t2, t3, t4⟩ := tl _ _ W3 ((Mv.of_le le1).trans W.wf M3) ((if_neg hno).trans ((if_neg h40').trans (congrArg some eC.symm))) rfl rfl
      refine ⟨_, W3.ld (i := 0) (n := 1) rfl (by decide), _, _, leader_spec _ v hv.1, ⟨_, W3.ld (i := 0) (n := 1) rfl (by decide), rfl⟩, bs_dn t1 (fun heq => ⟨(0, ⟨none, 0, [], [], _⟩, _, _), rfl, rfl, rfl, rfl, rfl, rfl, ⟨Nat.zero_le _, W3, OXok.nil W3.wf, rfl, t3, t4, rfl⟩, fun ⟨o, w2, g2⟩ ⟨e1, B, eo⟩ => ?_, fun _ _ h => h.elim⟩)⟩
      dsimp only at e1 B eo ⊢
      cases e1
      obtain ⟨u1, u2⟩ := t2 o B eo heq
      refine bs_d (fun h3 => ?_) (fun h3 => u1 (by omega))
      obtain ⟨g5, g6, A5, A6, q⟩ := u2 (by omega)
      exact ⟨_, (W3.grow B.le B.wf).ld (i := 0) (n := 1) rfl (by decide), rfl, ⟨_, (W3.grow B.le B.wf).ld (i := 0) (n := 1) rfl (by decide), rfl⟩, _, A5, _, A6, q⟩
  · refine bs_d (fun e => absurd e (by omega)) (fun _ => ?_)
    obtain ⟨t1, t2, t3, t4⟩ := tl _ _ Wg (.of_le le1) (if_pos hyes) rfl rfl
    refine ⟨_, Wg.ld (i := 0) (n := 1) rfl (by decide), _, _, leader_spec _ v hv.1, ⟨_, Wg.ld (i := 0) (n := 1) rfl (by decide), rfl⟩, bs_dn t1 (fun heq => ⟨(0, ⟨none, 0, [], [], _⟩, _, _), rfl, rfl, rfl, rfl, rfl, rfl, ⟨Nat.zero_le _, Wg, OXok.nil Wg.wf, rfl, t3, t4, rfl⟩, fun ⟨o, w2, g2⟩ ⟨e1, B, eo⟩ => ?_, fun _ _ h => h.elim⟩)⟩
    dsimp only at e1 B eo ⊢
    cases e1
    obtain ⟨u1, u2⟩ := t2 o B eo heq
    refine bs_d (fun h3 => ?_) (fun h3 => u1 (by omega))
    obtain ⟨g5, g6, A5, A6, q⟩ := u2 (by omega)
    exact ⟨_, (Wg.grow B.le B.wf).ld (i := 0) (n := 1) rfl (by decide), rfl, ⟨_, (Wg.grow B.le B.wf).ld (i := 0) (n := 1) rfl (by decide), rfl⟩, _, A5, _, A6, q⟩
end Go.Proofs.YtpgfjadjhliohaaGreat
